/- The law CrcFinds walked. -/
import Derived.Test.YtihimcgppifcbaaDoorCrcOwn
import Derived.Test.YtihimcgppifcbaaDoorCrcBurst
namespace Go.Proofs.YtihimcgppifcbaaDoor
open Go.RowKit

theorem shr8 (x k : Nat) : x >>> (8 * k) = x / 256 ^ k := by
  rw [Nat.shiftRight_eq_div_pow, Nat.pow_mul]

theorem shr_int (x j : Nat) : (x : Int) / 2 ^ (8 * j) = ((x / 256 ^ j : Nat) : Int) := by
  rw [show (256 : Nat) = 2 ^ 8 from rfl, ← Nat.pow_mul]; push_cast; rfl

set_option maxRecDepth 100000 in
set_option maxHeartbeats 4000000 in
theorem crcFinds_any (v : Value) (l : List UInt8) (at_ bt : Nat) (ha : at_ < 18446744073709551616) (hbt : bt < 4294967296) (w : World) (h : Bs w v l) (ht : Table w) (hl : l.length + 4 ≤ 140737488355328) :
    Calls Tryd.prog 7 #[v, .int .u64 at_, .int .u32 bt] w fun e w' => e = .returned (.bool true) ∧ Below w.heap.size w w' := by
  have hstr := hide (fun W v' l' (hW : Bs W v' l') => run_str (P := Tryd.prog) 23 5 Tryd.underlying23 Tryd.underlying5 9 Tryd.underlying9 v' l' hW)
  have hos := open_seal l
  have hsl := sealV_length l
  have hop := fun W x (hW : Bs W x (sealV l)) hT => open_any x (sealV l) W hW hT (by omega)
  rw [hos] at hop
  have hop' := hide hop
  have h' := hide h
  have ht' := hide ht
  clear hos hop h ht
  go_enter Tryd.func7, Tryd.ntmps7
  go_wp2_with fail
  refine (seal_any v l w h'.out ht'.out hl).mono ?_
  rintro e w1 ⟨s, rfl, hs, hb1⟩
  have hs' := hide hs
  have z1 := hb1.size
  have hb1' := hide hb1
  have T1 := hide (ht'.out.below hb1)
  have hsl' := hide hsl
  obtain ⟨X, cx, rfl, _, _, _⟩ := hs.bs.open_
  clear hs hb1
  rw [hsl] at hs' ⊢
  clear hsl
  go_wp2_with fail
  refine (hop'.out w1 _ hs'.out.bs T1.out).mono ?_
  rintro e w2 ⟨x, rfl, hx, hb2⟩
  have z2 := hb2.size
  have hx' := hide hx
  have hs2 := hide (hs'.out.below hb2)
  have T2 := hide (T1.out.below hb2)
  have hB2 := hide (hb1'.out.trans (hb2.mono (by omega)))
  clear hx hb2 hs' T1 hb1'
  go_wp2_with fail
  refine (awake03 w2 T2.out).mono ?_
  rintro e w3 ⟨rfl, hb3⟩
  have hs3 := hide (hs2.out.below hb3)
  have T3 := hide (T2.out.below hb3)
  have hB3 := hide (hB2.out.trans (hb3.mono (by omega)))
  have hx3 := hide (hx'.out.bs.below hb3)
  have z3 := hb3.size
  clear hs2 hx' T2 hB2 hb3
  have hcx := hstr.out w3 x l hx3.out
  have hcv := hstr.out w3 v l (h'.out.below hB3.out)
  obtain ⟨V, cv, rfl, _, _, _⟩ := h'.out.open_
  obtain ⟨k, hk, hkd⟩ : ∃ k : Nat, k ≤ 8 * l.length ∧ (at_ : Int) % (8 * ((l.length : Int) + 4) - 32 + 1) = k := by
    have := Nat.mod_lt at_ (show 0 < 8 * l.length + 1 by omega)
    refine ⟨at_ % (8 * l.length + 1), by omega, ?_⟩
    rw [show (8 * ((l.length : Int) + 4) - 32 + 1) = ((8 * l.length + 1 : Nat) : Int) by omega]
    rfl
  have hws : bt * 2 ^ (k % 8) < 18446744073709551616 := by
    have h7 : 2 ^ (k % 8) ≤ 2 ^ 7 := Nat.pow_le_pow_right (by omega) (by omega)
    have := Nat.mul_le_mul_left bt h7
    omega
  have hst := hide (Hit.start (sealV l) (k / 8) (bt * 2 ^ (k % 8)))
  have hdone := hide (fun m i h hi he => Hit.done (l := l) (m := m) (k := k) (bits := bt) (i := i) h hbt hk hi he)
  have hz0' := hide (show l.length = 0 → bt = bt * 2 ^ (k % 8) from fun h => by rw [show k = 0 by omega]; exact (Nat.mul_one bt).symm)
  have hsh : IntKind.u64.wrap (bt * 2 ^ (k % 8)) = ((bt * 2 ^ (k % 8) : Nat) : Int) := by
    rw [show (bt : Int) * 2 ^ (k % 8) = ((bt * 2 ^ (k % 8) : Nat) : Int) by push_cast; rfl]
    exact IntWalk.u64_in _ (by omega)
  generalize hwd : bt * 2 ^ (k % 8) = wide at hsh hst hdone hz0' hws
  have hsh' := hide hsh
  have hkt : (at_ : Int).tmod (8 * ((l.length : Int) + 4) - 32 + 1) = k := by rw [Int.tmod_eq_emod_of_nonneg (by omega)]; exact hkd
  clear hwd hkd hsh
  have htest : decide ((32 : Int) < 8 * ((l.length : Int) + 4)) = decide (0 < l.length) := by congr 1; exact propext (by omega)
  rcases Nat.lt_or_ge l.length 1 with h00 | h00
  all_goals
    first
      | (have hd1 : decide ((32 : Int) < 8 * ((l.length : Int) + 4)) = true := by rw [htest]; exact decide_eq_true h00)
      | (have hd1 : decide ((32 : Int) < 8 * ((l.length : Int) + 4)) = false := by rw [htest]; exact decide_eq_false (by omega))
    clear htest
    go_wp2_with fail
  rotate_left
  rw [hsh'.out]
  rotate_left
  rw [show (Value.int .u64 0) = Value.int .u64 (k : Int) by rw [show k = 0 by omega]; rfl, show (Value.int .u64 (bt : Int)) = Value.int .u64 (wide : Int) by rw [hz0'.out (by omega)]]
  all_goals
    clear hcx hcv hkt
    go_loopw [13] (fun i wr => ∃ j : Nat, ∃ m : List UInt8, j ≤ 5 ∧ i = .int .u64 j ∧ m.length = l.length + 4 ∧ wr.ownsRow w.heap.size 5 1 (.slice X (l.length + 4) cx) (l.length + 4) (bytesV m) ∧ Hit (sealV l) m (k / 8) wide j ∧ Below w.heap.size w wr) (fun i _ => 5 - (intOf i).toNat)
    case atStart =>
      refine ⟨0, sealV l, by omega, ?_, hsl'.out, ?_, hst.out, hB3.out⟩
      · first | rfl | (rw [show k = 0 by omega])
      · have := hs3.out; unfold OwnB at this; rw [hsl'.out] at this; exact this
    case round =>
      obtain ⟨j, m, hj, rfl, hm, hown, hhit, hbr⟩ := hrel
      have hbr' := hide hbr
      clear hs3 hst hB3
      have hk8 : (k : Int) / 8 = ((k / 8 : Nat) : Int) := by omega
      have hpn : k / 8 ≤ l.length := by omega
      generalize k / 8 = p at *
      obtain ⟨g, rfl⟩ : ∃ g, X = some ⟨g, 0, none⟩ := by
        rcases hown.2 with ⟨hh, h0⟩ | ⟨g, _, _, hh, _⟩
        · omega
        · injection hh with hh _ _; exact ⟨g, hh⟩
      have hgb := (hown.lt g rfl).1
      by_cases hlt : j < 5 ∧ p + j < l.length + 4
      · obtain ⟨hj5, hlt⟩ := hlt
        have hc := own_cell hown hm (p + j) hlt
        have hlti : (p : Int) + (j : Int) < (l.length : Int) + 4 := by omega
        have hf := hown.frozenAt (p + j)
        have hst' := hide (fun y hy => own_store hown (p + j) y hy)
        have hnx := hide (hhit.next (by rw [hsl'.out]; exact hlt) (by omega))
        have hml := UInt8.toNat_lt (m[p + j]'(by omega))
        have hsr := shr_int wide j
        generalize (m[p + j]'(by omega)).toNat = q at *
        have hyl : wide / 256 ^ j < 18446744073709551616 := Nat.lt_of_le_of_lt (Nat.div_le_self _ _) hws
        generalize wide / 256 ^ j = y at *
        obtain ⟨z, hzz, hz, f1⟩ : ∃ z : Nat, z = q ^^^ (y % 256) ∧ z < 256 ∧ bits .xor .u8 (q : Int) ((y : Int) % 256) = z := ⟨q ^^^ (y % 256), rfl, Nat.xor_lt_two_pow (n := 8) hml (Nat.mod_lt _ (by omega)), by
          rw [show (y : Int) % 256 = ((y % 256 : Nat) : Int) by omega]; exact u8_xor_nat q (y % 256) hml (Nat.mod_lt _ (by omega))⟩
        have hzz' := hide hzz
        clear hown hhit hzz
        go_wp2_with fail
        go_roundw
        case rel => exact ⟨j + 1, m.set (p + j) (UInt8.ofNat z), by omega, by go_num, by rw [List.length_set]; exact hm, hst'.out z hz, by rw [hzz'.out]; exact hnx.out, hbr.setCell hgb _⟩
        case measure => simp [intOf]; omega
      · have hov := hdone.out m j hhit hj (by omega)
        have hml : m.length ≤ 140737488355328 := by omega
        have hon : Bs wr (.slice (some ⟨g, 0, none⟩) (l.length + 4) cx) m := by
          have := Sl.own hown
          unfold Bs
          rw [hm]; exact this
        have hon' := hide hon
        have T4 := hide (ht'.out.below (hbr'.out))
        have hbr2 := hide hbr
        have z5 := hbr.size
        clear hown hhit hon
        have hop2 := hide (open_any _ m wr hon'.out T4.out hml)
        rw [hov] at hop2
        clear hov
        have htr : decide ((j : Int) < 5) = true → decide ((p : Int) + (j : Int) < (l.length : Int) + 4) = false := fun h => decide_eq_false (by have := of_decide_eq_true h; omega)
        cases hj5 : decide ((j : Int) < 5)
        case' true => have htr' := htr hj5
        all_goals
          clear htr
          by_cases hb0 : bt = 0
          · rw [if_pos hb0] at hop2
            have hbd : decide ((bt : Int) = 0) = true := decide_eq_true (by omega)
            have hbe : ((bt : Int) == 0) = true := by simp [hb0]
            clear hb0
            go_wp2_with fail
            refine (hop2.out).mono ?_
            rintro e w5 ⟨y, rfl, hy, hb5⟩
            have hcy := hstr.out w5 y l hy.bs
            have hcv := hstr.out w5 _ l (h'.out.below (hbr2.out.trans (hb5.mono (by omega))))
            have hB5 := hide (hbr2.out.trans (hb5.mono (by omega)))
            clear hy hb5
            go_wp2_with fail
            go_ret
            exact ⟨rfl, hB5.out⟩
          · rw [if_neg hb0] at hop2
            have hbd : decide ((bt : Int) = 0) = false := decide_eq_false (by omega)
            have hbe : ((bt : Int) == 0) = false := by simp [hb0]
            clear hb0
            go_wp2_with fail
            refine (hop2.out).mono ?_
            rintro e w5 ⟨y, rfl, hy, hb5⟩
            have hB5 := hide (hbr2.out.trans (hb5.mono (by omega)))
            obtain ⟨Y, cy, rfl, _, _, _⟩ := hy.bs.open_
            clear hy hb5
            go_wp2_with fail
            go_ret
            exact ⟨rfl, hB5.out⟩
end Go.Proofs.YtihimcgppifcbaaDoor
