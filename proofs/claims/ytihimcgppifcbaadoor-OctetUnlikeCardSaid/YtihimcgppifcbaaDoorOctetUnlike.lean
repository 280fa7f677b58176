/- The law OctetUnlike walked. -/
import Derived.Test.YtihimcgppifcbaaDoorOctetAwake
namespace Go.Proofs.YtihimcgppifcbaaDoor
open Go.RowKit

theorem le_inj (k x y : Nat) (hx : x < 256 ^ k) (hy : y < 256 ^ k) (h : le x k = le y k) : x = y := by
  rw [← le_num k x hx, ← le_num k y hy, h]
theorem unlike_eq (k x y : Nat) (hx : x < 256 ^ k) (hy : y < 256 ^ k) : (decide (le x k = le y k) == ((x : Int) == (y : Int))) = true := by
  by_cases e : x = y
  · subst e; simp
  · have : ¬ le x k = le y k := fun h => e (le_inj k x y hx hy h)
    have e' : ¬ (x : Int) = (y : Int) := by omega
    simp [this, e']

set_option maxRecDepth 100000 in
theorem octetUnlike_bad (n m : Nat) (hn : n < 18446744073709551616) (size : Int) (hs : I64 size) (hsz : size < 1 ∨ 8 < size) (w : World) (hE : ErrT w) :
    Calls Tryd.prog 12 #[.int .u64 n, .int .u64 m, .int .i64 size] w fun e w' => e = .returned (.bool true) ∧ Below w.heap.size w w' := by
  have hE' := hide hE
  have hs' := hide hs
  have hp := hide (show putV n size = [] from if_neg (by omega))
  have hc : size < 1 ∨ (¬ size < 1 ∧ 8 < size) := by omega
  clear hE hs hsz
  rcases hc with h | ⟨h, h2⟩
  all_goals
    go_enter Tryd.func12, Tryd.ntmps12
    go_wp2_with fail
    refine (awake02 w hE'.out).mono ?_
    rintro e w1 ⟨rfl, hb1⟩
    have hb1' := hide hb1
    clear hb1
    go_wp2_with fail
    refine (put_any n hn size hs'.out w1).mono ?_
    rintro e w2 ⟨a, rfl, ha, hb2⟩
    have hb2' := hide (hb1'.out.trans (hb2.mono hb1'.out.size))
    rw [hp.out] at ha
    obtain ⟨A, c, rfl, _⟩ := ha.bs.open_
    clear ha hb2 hb1'
    go_wp2_with fail
    go_ret
    exact ⟨rfl, hb2'.out⟩

set_option maxRecDepth 100000 in
set_option maxHeartbeats 1000000 in
theorem octetUnlike_1 (n m : Nat) (hn : n < 18446744073709551616) (hm : m < 18446744073709551616) (w : World) (hE : ErrT w) :
    Calls Tryd.prog 12 #[.int .u64 n, .int .u64 m, .int .i64 1] w fun e w' => e = .returned (.bool true) ∧ Below w.heap.size w w' := by
  have hE' := hide hE
  clear hE
  go_enter Tryd.func12, Tryd.ntmps12
  go_wp2_with fail
  go_quiet (fail)
  have hq0 := hide (Q.below (⟨nq, rfl⟩ : Q w (w.drewN nq)) w.heap.size)
  generalize w.drewN nq = w0 at *
  have ex : (n : Int) % 256 = ((n % 256 : Nat) : Int) := by omega
  have ey : (m : Int) % 256 = ((m % 256 : Nat) : Int) := by omega
  rw [ex, ey]
  have hx : n % 256 < 256 ^ 1 := Nat.mod_lt _ (by decide)
  have hy : m % 256 < 256 ^ 1 := Nat.mod_lt _ (by decide)
  clear ex ey hn hm
  have hn : n % 256 < 18446744073709551616 := Nat.lt_of_lt_of_le hx (by decide)
  have hm : m % 256 < 18446744073709551616 := Nat.lt_of_lt_of_le hy (by decide)
  generalize n % 256 = x at *
  generalize m % 256 = y at *
  go_wp2_with fail
  refine (put_any x (by omega) 1 (by unfold I64; omega) _).mono ?_
  rintro e w1 ⟨a, rfl, ha, hb1⟩
  rw [show putV x 1 = le x 1 from rfl] at ha
  have ha1 := hide ha
  have hb1' := hide (hq0.out.trans (hb1.mono hq0.out.size))
  clear ha hb1
  go_wp2_with fail
  refine (put_any y (by omega) 1 (by unfold I64; omega) _).mono ?_
  rintro e w2 ⟨b, rfl, hb, hb2⟩
  rw [show putV y 1 = le y 1 from rfl] at hb
  have ha2 := hide (ha1.out.below hb2)
  have hbb := hide hb
  have hb2' := hide (hb1'.out.trans (hb2.mono hb1'.out.size))
  clear hb hb2 hb1' ha1
  go_wp2_with fail
  refine (get_any a _ w2 ha2.out.bs).mono ?_
  rintro e w3 ⟨rfl, rfl⟩
  rw [show getV (le x 1) = (x, 0) by unfold getV; rw [le_length, if_pos (by omega), le_num _ _ hx]]
  go_wp2_with fail
  refine (awake02 _ (hE'.out.below hb2'.out)).mono ?_
  rintro e w4 ⟨rfl, hb4⟩
  have ha4 := hide (ha2.out.below hb4)
  have hbb4 := hide (hbb.out.below hb4)
  have hb4' := hide (hb2'.out.trans (hb4.mono hb2'.out.size))
  clear hb4 hb2' ha2 hbb
  have hsz : ∃ A c, a = .slice A 1 c := by
    obtain ⟨A, c, h, _⟩ := ha4.out.bs.open_
    rw [le_length] at h
    exact ⟨A, c, h⟩
  obtain ⟨A, c, rfl⟩ := hsz
  go_wp2_with fail
  refine (same02_any _ b _ _ w4 ha4.out.bs hbb4.out.bs).mono ?_
  rintro e w5 ⟨rfl, rfl⟩
  have hu := unlike_eq 1 x y hx hy
  clear ha4 hbb4
  generalize decide (le x 1 = le y 1) = r at *
  go_wp2_with fail
  go_ret
  exact ⟨rfl, hb4'.out⟩
set_option maxRecDepth 100000 in
set_option maxHeartbeats 1000000 in
theorem octetUnlike_2 (n m : Nat) (hn : n < 18446744073709551616) (hm : m < 18446744073709551616) (w : World) (hE : ErrT w) :
    Calls Tryd.prog 12 #[.int .u64 n, .int .u64 m, .int .i64 2] w fun e w' => e = .returned (.bool true) ∧ Below w.heap.size w w' := by
  have hE' := hide hE
  clear hE
  go_enter Tryd.func12, Tryd.ntmps12
  go_wp2_with fail
  go_quiet (fail)
  have hq0 := hide (Q.below (⟨nq, rfl⟩ : Q w (w.drewN nq)) w.heap.size)
  generalize w.drewN nq = w0 at *
  have ex : (n : Int) % 65536 = ((n % 65536 : Nat) : Int) := by omega
  have ey : (m : Int) % 65536 = ((m % 65536 : Nat) : Int) := by omega
  rw [ex, ey]
  have hx : n % 65536 < 256 ^ 2 := Nat.mod_lt _ (by decide)
  have hy : m % 65536 < 256 ^ 2 := Nat.mod_lt _ (by decide)
  clear ex ey hn hm
  have hn : n % 65536 < 18446744073709551616 := Nat.lt_of_lt_of_le hx (by decide)
  have hm : m % 65536 < 18446744073709551616 := Nat.lt_of_lt_of_le hy (by decide)
  generalize n % 65536 = x at *
  generalize m % 65536 = y at *
  go_wp2_with fail
  refine (put_any x (by omega) 2 (by unfold I64; omega) _).mono ?_
  rintro e w1 ⟨a, rfl, ha, hb1⟩
  rw [show putV x 2 = le x 2 from rfl] at ha
  have ha1 := hide ha
  have hb1' := hide (hq0.out.trans (hb1.mono hq0.out.size))
  clear ha hb1
  go_wp2_with fail
  refine (put_any y (by omega) 2 (by unfold I64; omega) _).mono ?_
  rintro e w2 ⟨b, rfl, hb, hb2⟩
  rw [show putV y 2 = le y 2 from rfl] at hb
  have ha2 := hide (ha1.out.below hb2)
  have hbb := hide hb
  have hb2' := hide (hb1'.out.trans (hb2.mono hb1'.out.size))
  clear hb hb2 hb1' ha1
  go_wp2_with fail
  refine (get_any a _ w2 ha2.out.bs).mono ?_
  rintro e w3 ⟨rfl, rfl⟩
  rw [show getV (le x 2) = (x, 0) by unfold getV; rw [le_length, if_pos (by omega), le_num _ _ hx]]
  go_wp2_with fail
  refine (awake02 _ (hE'.out.below hb2'.out)).mono ?_
  rintro e w4 ⟨rfl, hb4⟩
  have ha4 := hide (ha2.out.below hb4)
  have hbb4 := hide (hbb.out.below hb4)
  have hb4' := hide (hb2'.out.trans (hb4.mono hb2'.out.size))
  clear hb4 hb2' ha2 hbb
  have hsz : ∃ A c, a = .slice A 2 c := by
    obtain ⟨A, c, h, _⟩ := ha4.out.bs.open_
    rw [le_length] at h
    exact ⟨A, c, h⟩
  obtain ⟨A, c, rfl⟩ := hsz
  go_wp2_with fail
  refine (same02_any _ b _ _ w4 ha4.out.bs hbb4.out.bs).mono ?_
  rintro e w5 ⟨rfl, rfl⟩
  have hu := unlike_eq 2 x y hx hy
  clear ha4 hbb4
  generalize decide (le x 2 = le y 2) = r at *
  go_wp2_with fail
  go_ret
  exact ⟨rfl, hb4'.out⟩
set_option maxRecDepth 100000 in
set_option maxHeartbeats 1000000 in
theorem octetUnlike_3 (n m : Nat) (hn : n < 18446744073709551616) (hm : m < 18446744073709551616) (w : World) (hE : ErrT w) :
    Calls Tryd.prog 12 #[.int .u64 n, .int .u64 m, .int .i64 3] w fun e w' => e = .returned (.bool true) ∧ Below w.heap.size w w' := by
  have hE' := hide hE
  clear hE
  go_enter Tryd.func12, Tryd.ntmps12
  go_wp2_with fail
  go_quiet (fail)
  have hq0 := hide (Q.below (⟨nq, rfl⟩ : Q w (w.drewN nq)) w.heap.size)
  generalize w.drewN nq = w0 at *
  have ex : (n : Int) % 16777216 = ((n % 16777216 : Nat) : Int) := by omega
  have ey : (m : Int) % 16777216 = ((m % 16777216 : Nat) : Int) := by omega
  rw [ex, ey]
  have hx : n % 16777216 < 256 ^ 3 := Nat.mod_lt _ (by decide)
  have hy : m % 16777216 < 256 ^ 3 := Nat.mod_lt _ (by decide)
  clear ex ey hn hm
  have hn : n % 16777216 < 18446744073709551616 := Nat.lt_of_lt_of_le hx (by decide)
  have hm : m % 16777216 < 18446744073709551616 := Nat.lt_of_lt_of_le hy (by decide)
  generalize n % 16777216 = x at *
  generalize m % 16777216 = y at *
  go_wp2_with fail
  refine (put_any x (by omega) 3 (by unfold I64; omega) _).mono ?_
  rintro e w1 ⟨a, rfl, ha, hb1⟩
  rw [show putV x 3 = le x 3 from rfl] at ha
  have ha1 := hide ha
  have hb1' := hide (hq0.out.trans (hb1.mono hq0.out.size))
  clear ha hb1
  go_wp2_with fail
  refine (put_any y (by omega) 3 (by unfold I64; omega) _).mono ?_
  rintro e w2 ⟨b, rfl, hb, hb2⟩
  rw [show putV y 3 = le y 3 from rfl] at hb
  have ha2 := hide (ha1.out.below hb2)
  have hbb := hide hb
  have hb2' := hide (hb1'.out.trans (hb2.mono hb1'.out.size))
  clear hb hb2 hb1' ha1
  go_wp2_with fail
  refine (get_any a _ w2 ha2.out.bs).mono ?_
  rintro e w3 ⟨rfl, rfl⟩
  rw [show getV (le x 3) = (x, 0) by unfold getV; rw [le_length, if_pos (by omega), le_num _ _ hx]]
  go_wp2_with fail
  refine (awake02 _ (hE'.out.below hb2'.out)).mono ?_
  rintro e w4 ⟨rfl, hb4⟩
  have ha4 := hide (ha2.out.below hb4)
  have hbb4 := hide (hbb.out.below hb4)
  have hb4' := hide (hb2'.out.trans (hb4.mono hb2'.out.size))
  clear hb4 hb2' ha2 hbb
  have hsz : ∃ A c, a = .slice A 3 c := by
    obtain ⟨A, c, h, _⟩ := ha4.out.bs.open_
    rw [le_length] at h
    exact ⟨A, c, h⟩
  obtain ⟨A, c, rfl⟩ := hsz
  go_wp2_with fail
  refine (same02_any _ b _ _ w4 ha4.out.bs hbb4.out.bs).mono ?_
  rintro e w5 ⟨rfl, rfl⟩
  have hu := unlike_eq 3 x y hx hy
  clear ha4 hbb4
  generalize decide (le x 3 = le y 3) = r at *
  go_wp2_with fail
  go_ret
  exact ⟨rfl, hb4'.out⟩
set_option maxRecDepth 100000 in
set_option maxHeartbeats 1000000 in
theorem octetUnlike_4 (n m : Nat) (hn : n < 18446744073709551616) (hm : m < 18446744073709551616) (w : World) (hE : ErrT w) :
    Calls Tryd.prog 12 #[.int .u64 n, .int .u64 m, .int .i64 4] w fun e w' => e = .returned (.bool true) ∧ Below w.heap.size w w' := by
  have hE' := hide hE
  clear hE
  go_enter Tryd.func12, Tryd.ntmps12
  go_wp2_with fail
  go_quiet (fail)
  have hq0 := hide (Q.below (⟨nq, rfl⟩ : Q w (w.drewN nq)) w.heap.size)
  generalize w.drewN nq = w0 at *
  have ex : (n : Int) % 4294967296 = ((n % 4294967296 : Nat) : Int) := by omega
  have ey : (m : Int) % 4294967296 = ((m % 4294967296 : Nat) : Int) := by omega
  rw [ex, ey]
  have hx : n % 4294967296 < 256 ^ 4 := Nat.mod_lt _ (by decide)
  have hy : m % 4294967296 < 256 ^ 4 := Nat.mod_lt _ (by decide)
  clear ex ey hn hm
  have hn : n % 4294967296 < 18446744073709551616 := Nat.lt_of_lt_of_le hx (by decide)
  have hm : m % 4294967296 < 18446744073709551616 := Nat.lt_of_lt_of_le hy (by decide)
  generalize n % 4294967296 = x at *
  generalize m % 4294967296 = y at *
  go_wp2_with fail
  refine (put_any x (by omega) 4 (by unfold I64; omega) _).mono ?_
  rintro e w1 ⟨a, rfl, ha, hb1⟩
  rw [show putV x 4 = le x 4 from rfl] at ha
  have ha1 := hide ha
  have hb1' := hide (hq0.out.trans (hb1.mono hq0.out.size))
  clear ha hb1
  go_wp2_with fail
  refine (put_any y (by omega) 4 (by unfold I64; omega) _).mono ?_
  rintro e w2 ⟨b, rfl, hb, hb2⟩
  rw [show putV y 4 = le y 4 from rfl] at hb
  have ha2 := hide (ha1.out.below hb2)
  have hbb := hide hb
  have hb2' := hide (hb1'.out.trans (hb2.mono hb1'.out.size))
  clear hb hb2 hb1' ha1
  go_wp2_with fail
  refine (get_any a _ w2 ha2.out.bs).mono ?_
  rintro e w3 ⟨rfl, rfl⟩
  rw [show getV (le x 4) = (x, 0) by unfold getV; rw [le_length, if_pos (by omega), le_num _ _ hx]]
  go_wp2_with fail
  refine (awake02 _ (hE'.out.below hb2'.out)).mono ?_
  rintro e w4 ⟨rfl, hb4⟩
  have ha4 := hide (ha2.out.below hb4)
  have hbb4 := hide (hbb.out.below hb4)
  have hb4' := hide (hb2'.out.trans (hb4.mono hb2'.out.size))
  clear hb4 hb2' ha2 hbb
  have hsz : ∃ A c, a = .slice A 4 c := by
    obtain ⟨A, c, h, _⟩ := ha4.out.bs.open_
    rw [le_length] at h
    exact ⟨A, c, h⟩
  obtain ⟨A, c, rfl⟩ := hsz
  go_wp2_with fail
  refine (same02_any _ b _ _ w4 ha4.out.bs hbb4.out.bs).mono ?_
  rintro e w5 ⟨rfl, rfl⟩
  have hu := unlike_eq 4 x y hx hy
  clear ha4 hbb4
  generalize decide (le x 4 = le y 4) = r at *
  go_wp2_with fail
  go_ret
  exact ⟨rfl, hb4'.out⟩
set_option maxRecDepth 100000 in
set_option maxHeartbeats 1000000 in
theorem octetUnlike_5 (n m : Nat) (hn : n < 18446744073709551616) (hm : m < 18446744073709551616) (w : World) (hE : ErrT w) :
    Calls Tryd.prog 12 #[.int .u64 n, .int .u64 m, .int .i64 5] w fun e w' => e = .returned (.bool true) ∧ Below w.heap.size w w' := by
  have hE' := hide hE
  clear hE
  go_enter Tryd.func12, Tryd.ntmps12
  go_wp2_with fail
  go_quiet (fail)
  have hq0 := hide (Q.below (⟨nq, rfl⟩ : Q w (w.drewN nq)) w.heap.size)
  generalize w.drewN nq = w0 at *
  have ex : (n : Int) % 1099511627776 = ((n % 1099511627776 : Nat) : Int) := by omega
  have ey : (m : Int) % 1099511627776 = ((m % 1099511627776 : Nat) : Int) := by omega
  rw [ex, ey]
  have hx : n % 1099511627776 < 256 ^ 5 := Nat.mod_lt _ (by decide)
  have hy : m % 1099511627776 < 256 ^ 5 := Nat.mod_lt _ (by decide)
  clear ex ey hn hm
  have hn : n % 1099511627776 < 18446744073709551616 := Nat.lt_of_lt_of_le hx (by decide)
  have hm : m % 1099511627776 < 18446744073709551616 := Nat.lt_of_lt_of_le hy (by decide)
  generalize n % 1099511627776 = x at *
  generalize m % 1099511627776 = y at *
  go_wp2_with fail
  refine (put_any x (by omega) 5 (by unfold I64; omega) _).mono ?_
  rintro e w1 ⟨a, rfl, ha, hb1⟩
  rw [show putV x 5 = le x 5 from rfl] at ha
  have ha1 := hide ha
  have hb1' := hide (hq0.out.trans (hb1.mono hq0.out.size))
  clear ha hb1
  go_wp2_with fail
  refine (put_any y (by omega) 5 (by unfold I64; omega) _).mono ?_
  rintro e w2 ⟨b, rfl, hb, hb2⟩
  rw [show putV y 5 = le y 5 from rfl] at hb
  have ha2 := hide (ha1.out.below hb2)
  have hbb := hide hb
  have hb2' := hide (hb1'.out.trans (hb2.mono hb1'.out.size))
  clear hb hb2 hb1' ha1
  go_wp2_with fail
  refine (get_any a _ w2 ha2.out.bs).mono ?_
  rintro e w3 ⟨rfl, rfl⟩
  rw [show getV (le x 5) = (x, 0) by unfold getV; rw [le_length, if_pos (by omega), le_num _ _ hx]]
  go_wp2_with fail
  refine (awake02 _ (hE'.out.below hb2'.out)).mono ?_
  rintro e w4 ⟨rfl, hb4⟩
  have ha4 := hide (ha2.out.below hb4)
  have hbb4 := hide (hbb.out.below hb4)
  have hb4' := hide (hb2'.out.trans (hb4.mono hb2'.out.size))
  clear hb4 hb2' ha2 hbb
  have hsz : ∃ A c, a = .slice A 5 c := by
    obtain ⟨A, c, h, _⟩ := ha4.out.bs.open_
    rw [le_length] at h
    exact ⟨A, c, h⟩
  obtain ⟨A, c, rfl⟩ := hsz
  go_wp2_with fail
  refine (same02_any _ b _ _ w4 ha4.out.bs hbb4.out.bs).mono ?_
  rintro e w5 ⟨rfl, rfl⟩
  have hu := unlike_eq 5 x y hx hy
  clear ha4 hbb4
  generalize decide (le x 5 = le y 5) = r at *
  go_wp2_with fail
  go_ret
  exact ⟨rfl, hb4'.out⟩
set_option maxRecDepth 100000 in
set_option maxHeartbeats 1000000 in
theorem octetUnlike_6 (n m : Nat) (hn : n < 18446744073709551616) (hm : m < 18446744073709551616) (w : World) (hE : ErrT w) :
    Calls Tryd.prog 12 #[.int .u64 n, .int .u64 m, .int .i64 6] w fun e w' => e = .returned (.bool true) ∧ Below w.heap.size w w' := by
  have hE' := hide hE
  clear hE
  go_enter Tryd.func12, Tryd.ntmps12
  go_wp2_with fail
  go_quiet (fail)
  have hq0 := hide (Q.below (⟨nq, rfl⟩ : Q w (w.drewN nq)) w.heap.size)
  generalize w.drewN nq = w0 at *
  have ex : (n : Int) % 281474976710656 = ((n % 281474976710656 : Nat) : Int) := by omega
  have ey : (m : Int) % 281474976710656 = ((m % 281474976710656 : Nat) : Int) := by omega
  rw [ex, ey]
  have hx : n % 281474976710656 < 256 ^ 6 := Nat.mod_lt _ (by decide)
  have hy : m % 281474976710656 < 256 ^ 6 := Nat.mod_lt _ (by decide)
  clear ex ey hn hm
  have hn : n % 281474976710656 < 18446744073709551616 := Nat.lt_of_lt_of_le hx (by decide)
  have hm : m % 281474976710656 < 18446744073709551616 := Nat.lt_of_lt_of_le hy (by decide)
  generalize n % 281474976710656 = x at *
  generalize m % 281474976710656 = y at *
  go_wp2_with fail
  refine (put_any x (by omega) 6 (by unfold I64; omega) _).mono ?_
  rintro e w1 ⟨a, rfl, ha, hb1⟩
  rw [show putV x 6 = le x 6 from rfl] at ha
  have ha1 := hide ha
  have hb1' := hide (hq0.out.trans (hb1.mono hq0.out.size))
  clear ha hb1
  go_wp2_with fail
  refine (put_any y (by omega) 6 (by unfold I64; omega) _).mono ?_
  rintro e w2 ⟨b, rfl, hb, hb2⟩
  rw [show putV y 6 = le y 6 from rfl] at hb
  have ha2 := hide (ha1.out.below hb2)
  have hbb := hide hb
  have hb2' := hide (hb1'.out.trans (hb2.mono hb1'.out.size))
  clear hb hb2 hb1' ha1
  go_wp2_with fail
  refine (get_any a _ w2 ha2.out.bs).mono ?_
  rintro e w3 ⟨rfl, rfl⟩
  rw [show getV (le x 6) = (x, 0) by unfold getV; rw [le_length, if_pos (by omega), le_num _ _ hx]]
  go_wp2_with fail
  refine (awake02 _ (hE'.out.below hb2'.out)).mono ?_
  rintro e w4 ⟨rfl, hb4⟩
  have ha4 := hide (ha2.out.below hb4)
  have hbb4 := hide (hbb.out.below hb4)
  have hb4' := hide (hb2'.out.trans (hb4.mono hb2'.out.size))
  clear hb4 hb2' ha2 hbb
  have hsz : ∃ A c, a = .slice A 6 c := by
    obtain ⟨A, c, h, _⟩ := ha4.out.bs.open_
    rw [le_length] at h
    exact ⟨A, c, h⟩
  obtain ⟨A, c, rfl⟩ := hsz
  go_wp2_with fail
  refine (same02_any _ b _ _ w4 ha4.out.bs hbb4.out.bs).mono ?_
  rintro e w5 ⟨rfl, rfl⟩
  have hu := unlike_eq 6 x y hx hy
  clear ha4 hbb4
  generalize decide (le x 6 = le y 6) = r at *
  go_wp2_with fail
  go_ret
  exact ⟨rfl, hb4'.out⟩
set_option maxRecDepth 100000 in
set_option maxHeartbeats 1000000 in
theorem octetUnlike_7 (n m : Nat) (hn : n < 18446744073709551616) (hm : m < 18446744073709551616) (w : World) (hE : ErrT w) :
    Calls Tryd.prog 12 #[.int .u64 n, .int .u64 m, .int .i64 7] w fun e w' => e = .returned (.bool true) ∧ Below w.heap.size w w' := by
  have hE' := hide hE
  clear hE
  go_enter Tryd.func12, Tryd.ntmps12
  go_wp2_with fail
  go_quiet (fail)
  have hq0 := hide (Q.below (⟨nq, rfl⟩ : Q w (w.drewN nq)) w.heap.size)
  generalize w.drewN nq = w0 at *
  have ex : (n : Int) % 72057594037927936 = ((n % 72057594037927936 : Nat) : Int) := by omega
  have ey : (m : Int) % 72057594037927936 = ((m % 72057594037927936 : Nat) : Int) := by omega
  rw [ex, ey]
  have hx : n % 72057594037927936 < 256 ^ 7 := Nat.mod_lt _ (by decide)
  have hy : m % 72057594037927936 < 256 ^ 7 := Nat.mod_lt _ (by decide)
  clear ex ey hn hm
  have hn : n % 72057594037927936 < 18446744073709551616 := Nat.lt_of_lt_of_le hx (by decide)
  have hm : m % 72057594037927936 < 18446744073709551616 := Nat.lt_of_lt_of_le hy (by decide)
  generalize n % 72057594037927936 = x at *
  generalize m % 72057594037927936 = y at *
  go_wp2_with fail
  refine (put_any x (by omega) 7 (by unfold I64; omega) _).mono ?_
  rintro e w1 ⟨a, rfl, ha, hb1⟩
  rw [show putV x 7 = le x 7 from rfl] at ha
  have ha1 := hide ha
  have hb1' := hide (hq0.out.trans (hb1.mono hq0.out.size))
  clear ha hb1
  go_wp2_with fail
  refine (put_any y (by omega) 7 (by unfold I64; omega) _).mono ?_
  rintro e w2 ⟨b, rfl, hb, hb2⟩
  rw [show putV y 7 = le y 7 from rfl] at hb
  have ha2 := hide (ha1.out.below hb2)
  have hbb := hide hb
  have hb2' := hide (hb1'.out.trans (hb2.mono hb1'.out.size))
  clear hb hb2 hb1' ha1
  go_wp2_with fail
  refine (get_any a _ w2 ha2.out.bs).mono ?_
  rintro e w3 ⟨rfl, rfl⟩
  rw [show getV (le x 7) = (x, 0) by unfold getV; rw [le_length, if_pos (by omega), le_num _ _ hx]]
  go_wp2_with fail
  refine (awake02 _ (hE'.out.below hb2'.out)).mono ?_
  rintro e w4 ⟨rfl, hb4⟩
  have ha4 := hide (ha2.out.below hb4)
  have hbb4 := hide (hbb.out.below hb4)
  have hb4' := hide (hb2'.out.trans (hb4.mono hb2'.out.size))
  clear hb4 hb2' ha2 hbb
  have hsz : ∃ A c, a = .slice A 7 c := by
    obtain ⟨A, c, h, _⟩ := ha4.out.bs.open_
    rw [le_length] at h
    exact ⟨A, c, h⟩
  obtain ⟨A, c, rfl⟩ := hsz
  go_wp2_with fail
  refine (same02_any _ b _ _ w4 ha4.out.bs hbb4.out.bs).mono ?_
  rintro e w5 ⟨rfl, rfl⟩
  have hu := unlike_eq 7 x y hx hy
  clear ha4 hbb4
  generalize decide (le x 7 = le y 7) = r at *
  go_wp2_with fail
  go_ret
  exact ⟨rfl, hb4'.out⟩

set_option maxRecDepth 100000 in
set_option maxHeartbeats 1000000 in
theorem octetUnlike_8 (x y : Nat) (hn : x < 18446744073709551616) (hm : y < 18446744073709551616) (w : World) (hE : ErrT w) :
    Calls Tryd.prog 12 #[.int .u64 x, .int .u64 y, .int .i64 8] w fun e w' => e = .returned (.bool true) ∧ Below w.heap.size w w' := by
  have hE' := hide hE
  have hq0 := hide (Below.refl w.heap.size w)
  have hx : x < 256 ^ 8 := hn
  have hy : y < 256 ^ 8 := hm
  clear hE
  go_enter Tryd.func12, Tryd.ntmps12
  go_wp2_with fail
  refine (put_any x (by omega) 8 (by unfold I64; omega) _).mono ?_
  rintro e w1 ⟨a, rfl, ha, hb1⟩
  rw [show putV x 8 = le x 8 from rfl] at ha
  have ha1 := hide ha
  have hb1' := hide (hq0.out.trans (hb1.mono hq0.out.size))
  clear ha hb1
  go_wp2_with fail
  refine (put_any y (by omega) 8 (by unfold I64; omega) _).mono ?_
  rintro e w2 ⟨b, rfl, hb, hb2⟩
  rw [show putV y 8 = le y 8 from rfl] at hb
  have ha2 := hide (ha1.out.below hb2)
  have hbb := hide hb
  have hb2' := hide (hb1'.out.trans (hb2.mono hb1'.out.size))
  clear hb hb2 hb1' ha1
  go_wp2_with fail
  refine (get_any a _ w2 ha2.out.bs).mono ?_
  rintro e w3 ⟨rfl, rfl⟩
  rw [show getV (le x 8) = (x, 0) by unfold getV; rw [le_length, if_pos (by omega), le_num _ _ hx]]
  go_wp2_with fail
  refine (awake02 _ (hE'.out.below hb2'.out)).mono ?_
  rintro e w4 ⟨rfl, hb4⟩
  have ha4 := hide (ha2.out.below hb4)
  have hbb4 := hide (hbb.out.below hb4)
  have hb4' := hide (hb2'.out.trans (hb4.mono hb2'.out.size))
  clear hb4 hb2' ha2 hbb
  have hsz : ∃ A c, a = .slice A 8 c := by
    obtain ⟨A, c, h, _⟩ := ha4.out.bs.open_
    rw [le_length] at h
    exact ⟨A, c, h⟩
  obtain ⟨A, c, rfl⟩ := hsz
  go_wp2_with fail
  refine (same02_any _ b _ _ w4 ha4.out.bs hbb4.out.bs).mono ?_
  rintro e w5 ⟨rfl, rfl⟩
  have hu := unlike_eq 8 x y hx hy
  clear ha4 hbb4
  generalize decide (le x 8 = le y 8) = r at *
  go_wp2_with fail
  go_ret
  exact ⟨rfl, hb4'.out⟩

theorem octetUnlike_any (n m : Nat) (hn : n < 18446744073709551616) (hm : m < 18446744073709551616) (size : Int) (hs : I64 size) (w : World) (hE : ErrT w) :
    Calls Tryd.prog 12 #[.int .u64 n, .int .u64 m, .int .i64 size] w fun e w' => e = .returned (.bool true) ∧ Below w.heap.size w w' := by
  by_cases h : size < 1 ∨ 8 < size
  · exact octetUnlike_bad n m hn size hs h w hE
  · have : size = 1 ∨ size = 2 ∨ size = 3 ∨ size = 4 ∨ size = 5 ∨ size = 6 ∨ size = 7 ∨ size = 8 := by omega
    rcases this with rfl | rfl | rfl | rfl | rfl | rfl | rfl | rfl
    · exact octetUnlike_1 n m hn hm w hE
    · exact octetUnlike_2 n m hn hm w hE
    · exact octetUnlike_3 n m hn hm w hE
    · exact octetUnlike_4 n m hn hm w hE
    · exact octetUnlike_5 n m hn hm w hE
    · exact octetUnlike_6 n m hn hm w hE
    · exact octetUnlike_7 n m hn hm w hE
    · exact octetUnlike_8 n m hn hm w hE
end Go.Proofs.YtihimcgppifcbaaDoor
