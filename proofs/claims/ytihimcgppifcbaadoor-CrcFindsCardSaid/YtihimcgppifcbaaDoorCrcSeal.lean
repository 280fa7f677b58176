/- crc.Seal and Open walked, and the document's beside them. -/
import Derived.Test.YtihimcgppifcbaaDoorCrcOn
import Derived.Test.YtihimcgppifcbaaDoorOctetGet
import Derived.Deep.RegionWith
namespace Go.Proofs.YtihimcgppifcbaaDoor
open Go.RowKit

def sealV (l : List UInt8) : List UInt8 := l ++ le (Crc.of_ l) 4
theorem sealV_length (l : List UInt8) : (sealV l).length = l.length + 4 := by unfold sealV; rw [List.length_append, le_length]
/-- what Open answers: the bytes, the error's number -/
def openV (l : List UInt8) : List UInt8 × Int :=
  if l.length < 4 then ([], 2) else if Crc.num (l.drop (l.length - 4)) ≠ Crc.of_ (l.take (l.length - 4)) then ([], 8) else (l.take (l.length - 4), 0)

theorem putV4 (n : Nat) : putV n 4 = le n 4 := by unfold putV; rw [if_pos (by omega)]; rfl

set_option maxRecDepth 100000 in
theorem seal_any (v : Value) (l : List UInt8) (w : World) (h : Bs w v l) (ht : Table w) (hl : l.length + 4 ≤ 140737488355328) :
    Calls Tryd.prog 22 #[v] w fun e w' => ∃ v', e = .returned v' ∧ OwnB w' w.heap.size 5 v' (sealV l) ∧ Below w.heap.size w w' := by
  have hol : Crc.of_ l < 4294967296 := Crc.on_lt 0 l (by omega)
  go_enter Tryd.func22, Tryd.ntmps22
  go_wp2_with ((at_builtin; refine list_app_any elem_bytes rfl (.const (.slice none 0 0)) (.tmp 3) rfl w.heap.size (.slice none 0 0) 0 [] rfl (World.ownsRow_nil _ _ _ _) v l.length (bytesV l) rfl h (bytesV_one l) (by simp only [maxLen]; omega) (by omega) (Nat.le_refl _) ?_))
  intro v1 w1 hown1 hg1 hat1
  have hb1 : Below w.heap.size w w1 := (Below.refl _ _).grown hg1 (Nat.le_refl _) (by simp [Value.ownBlock])
  have hown1' := hide hown1
  have hb1s := hb1.size
  clear hown1 hg1
  go_wp2_with fail
  refine (of_any v l w1 (h.below hb1) (ht.below hb1)).mono ?_
  rintro e w2 ⟨rfl, rfl⟩
  go_wp2_with fail
  refine (put_any (Crc.of_ l) (by omega) 4 (by unfold I64; omega) _).mono ?_
  rintro e w2 ⟨v2, rfl, hown2, hb2⟩
  rw [putV4] at hown2
  have hown2' := hide hown2
  have hown1'' : Hid (w2.ownsRow w.heap.size 5 1 v1 l.length (bytesV l)) := hown1'.out.kept (row := none) ⟨hb2.os, hb2.tape, hb2.output, hb2.size, fun k hk _ => hb2.block k hk⟩ (by cases hv : v1.ownBlock <;> simp)
  have hb2s := hb2.size
  clear hown1' hown2
  go_wp2_with ((at_builtin; refine list_app_any elem_bytes rfl (.tmp 4) (.tmp 8) rfl w.heap.size v1 l.length (bytesV l) rfl hown1''.out v2 4 (bytesV (le (Crc.of_ l) 4)) rfl (Sl.own hown2'.out) (bytesV_one _) (by simp only [maxLen]; omega) (by omega) (by omega) ?_))
  intro v3 w3 hown3 hg3 hat3
  have hb3 : Below w.heap.size w w3 := (hb1.trans (hb2.mono hb1s)).grown hg3 (by omega) (fun k hk => (hown1''.out.lt k hk).1)
  have hown3' := hide hown3
  clear hown3 hg3
  go_wp2
  go_ret
  refine ⟨_, rfl, ?_, hb3⟩
  have := hown3'.out
  rw [← bytesV_append] at this
  unfold OwnB
  rw [sealV_length]
  exact this

set_option maxRecDepth 100000 in
theorem refSeal_any (v : Value) (l : List UInt8) (w : World) (h : Bs w v l) (hl : l.length + 4 ≤ 140737488355328) :
    Calls Tryd.prog 23 #[v] w fun e w' => ∃ v', e = .returned v' ∧ OwnB w' w.heap.size 5 v' (sealV l) ∧ Below w.heap.size w w' := by
  have hol : Crc.of_ l < 4294967296 := Crc.on_lt 0 l (by omega)
  go_enter Tryd.func23, Tryd.ntmps23
  go_wp2_with ((at_builtin; go_loud (refine list_app_any elem_bytes rfl (.tmp 3) (.tmp 4) rfl w.heap.size (.slice (some ⟨w.heap.size, 0, none⟩) 0 0) 0 [] rfl (World.ownsRow_made _ #[] 0 (Nat.le_refl _) (by simp [maxLen]) rfl) v l.length (bytesV l) rfl (h.below ((Below.refl _ _).alloc (Nat.le_refl _) _)) (bytesV_one l) (by simp only [maxLen]; omega) (by omega) (by simp) ?_)))
  intro v1 w1 hown1 hg1 hat1
  have hb1 : Below w.heap.size w w1 := ((Below.refl _ _).alloc (Nat.le_refl _) _).grown hg1 (by simp) (by simp [Value.ownBlock])
  have hown1' := hide hown1
  have hb1s := hb1.size
  clear hown1 hg1
  go_wp2_with fail
  refine (refOf_any v l w1 (h.below hb1)).mono ?_
  rintro e w2 ⟨rfl, rfl⟩
  go_wp2_with fail
  refine (refPut_any (Crc.of_ l) (by omega) 4 (by unfold I64; omega) _).mono ?_
  rintro e w2 ⟨v2, rfl, hown2, hb2⟩
  rw [putV4] at hown2
  have hown2' := hide hown2
  have hown1'' : Hid (w2.ownsRow w.heap.size 5 1 v1 l.length (bytesV l)) := hown1'.out.kept (row := none) ⟨hb2.os, hb2.tape, hb2.output, hb2.size, fun k hk _ => hb2.block k hk⟩ (by cases hv : v1.ownBlock <;> simp)
  have hb2s := hb2.size
  clear hown1' hown2
  go_wp2_with ((at_builtin; refine list_app_any elem_bytes rfl (.tmp 5) (.tmp 9) rfl w.heap.size v1 l.length (bytesV l) rfl hown1''.out v2 4 (bytesV (le (Crc.of_ l) 4)) rfl (Sl.own hown2'.out) (bytesV_one _) (by simp only [maxLen]; omega) (by omega) (by omega) ?_))
  intro v3 w3 hown3 hg3 hat3
  have hb3 : Below w.heap.size w w3 := (hb1.trans (hb2.mono hb1s)).grown hg3 (by omega) (fun k hk => (hown1''.out.lt k hk).1)
  have hown3' := hide hown3
  clear hown3 hg3
  go_wp2
  go_ret
  refine ⟨_, rfl, ?_, hb3⟩
  have := hown3'.out
  rw [← bytesV_append] at this
  unfold OwnB
  rw [sealV_length]
  exact this

set_option maxRecDepth 100000 in
theorem open_any (v : Value) (l : List UInt8) (w : World) (h : Bs w v l) (ht : Table w) (hl : l.length ≤ 140737488355328) :
    Calls Tryd.prog 20 #[v] w fun e w' => ∃ v', e = .returned (.tuple #[v', .int .i64 (openV l).2]) ∧ OwnB w' w.heap.size 5 v' (openV l).1 ∧ Below w.heap.size w w' := by
  obtain ⟨A, cp, rfl, h1, h2, h3⟩ := h.open_
  by_cases h4 : l.length < 4
  · have e : openV l = ([], 2) := if_pos h4
    rw [e]
    go_enter Tryd.func20, Tryd.ntmps20
    go_wp2
    go_ret2
    exact ⟨_, rfl, World.ownsRow_nil _ _ _ _, Below.refl _ _⟩
  · obtain ⟨b, off, rfl, hb, hc⟩ := h3 (by omega)
    have hd4 : (l.drop (l.length - 4)).length = 4 := by rw [List.length_drop]; omega
    have hnl := num_lt (l.drop (l.length - 4))
    rw [hd4] at hnl
    have hg : getV (l.drop (l.length - 4)) = (Crc.num (l.drop (l.length - 4)), 0) := if_pos (by omega)
    have hol : Crc.of_ (l.take (l.length - 4)) < 4294967296 := Crc.on_lt 0 _ (by omega)
    have hbt := hide (h.take (k := l.length - 4) (by omega))
    have hbd := hide (h.drop (k := l.length - 4) (by omega) (A' := some ⟨b, off + (l.length - 4), none⟩) (by intro b' off' e _; injection e with e; injection e with e1 e2; subst e1 e2; rfl))
    have e0 : openV l = if Crc.num (l.drop (l.length - 4)) ≠ Crc.of_ (l.take (l.length - 4)) then ([], 8) else (l.take (l.length - 4), 0) := if_neg h4
    have hgc := fun W hW => get_any (.slice (some ⟨b, off + (l.length - 4), none⟩) (l.length - (l.length - 4)) (cp - (l.length - 4))) (l.drop (l.length - 4)) W hW
    rw [hg] at hgc
    have hgc' := hide hgc
    have hoc := hide (fun W hW hT => of_any (.slice (some ⟨b, off, none⟩) (l.length - 4) cp) (l.take (l.length - 4)) W hW hT)
    clear hd4 hg hgc h3 hc h
    generalize Crc.num (l.drop (l.length - 4)) = x at *
    generalize Crc.of_ (l.take (l.length - 4)) = y at *
    by_cases hxy : x = y
    · rw [if_neg (by simpa using hxy)] at e0
      rw [e0]
      have hne : ((x : Int) != (y : Int)) = false := by simp [hxy]
      clear hxy e0
      go_enter Tryd.func20, Tryd.ntmps20
      go_wp2_with fail
      refine (hgc'.out _ hbd.out).mono ?_
      rintro e w1 ⟨rfl, rfl⟩
      go_wp2_with fail
      refine (hoc.out _ hbt.out ht).mono ?_
      rintro e w1 ⟨rfl, rfl⟩
      have hslt : Hid (Sl w1 1 (.slice (some ⟨b, off, none⟩) (l.length - 4) cp) (l.length - 4) (bytesV (l.take (l.length - 4)))) := by
        have h0 := hbt.out
        unfold Bs at h0
        rw [List.length_take, Nat.min_eq_left (by omega)] at h0
        exact h0
      go_wp2_with ((at_builtin; refine list_app_any elem_bytes rfl (.const (.slice none 0 0)) (.tmp 28) rfl w1.heap.size (.slice none 0 0) 0 [] rfl (World.ownsRow_nil _ _ _ _) (.slice (some ⟨b, off, none⟩) (l.length - 4) cp) (l.length - 4) (bytesV (l.take (l.length - 4))) rfl hslt.out (bytesV_one _) (by simp only [maxLen]; omega) (by omega) (Nat.le_refl _) ?_))
      intro v1 w2 hown1 hg1 hat1
      have hb1 := (Below.refl _ _).grown hg1 (Nat.le_refl _) (by simp [Value.ownBlock])
      have hown1' := hide hown1
      clear hown1 hg1 hslt
      go_wp2
      go_ret2
      refine ⟨_, rfl, ?_, hb1⟩
      have := hown1'.out
      unfold OwnB
      rw [List.length_take, Nat.min_eq_left (by omega)]
      exact this
    · rw [if_pos hxy] at e0
      rw [e0]
      have hne : ((x : Int) != (y : Int)) = true := by rw [bne_iff_ne]; omega
      clear hxy e0
      go_enter Tryd.func20, Tryd.ntmps20
      go_wp2_with fail
      refine (hgc'.out _ hbd.out).mono ?_
      rintro e w1 ⟨rfl, rfl⟩
      go_wp2_with fail
      refine (hoc.out _ hbt.out ht).mono ?_
      rintro e w1 ⟨rfl, rfl⟩
      go_wp2_with fail
      go_ret2
      exact ⟨_, rfl, World.ownsRow_nil _ _ _ _, Below.refl _ _⟩

theorem le_num : ∀ (k n : Nat), n < 256 ^ k → Crc.num (le n k) = n := by
  intro k
  induction k with
  | zero => intro n h; rw [Nat.pow_zero] at h; show 0 = n; omega
  | succ k ih =>
    intro n h
    rw [Nat.pow_succ] at h
    have e : le n (k + 1) = UInt8.ofNat n :: le (n / 256) k := by
      unfold le
      rw [List.range_succ_eq_map, List.map_cons, List.map_map, Nat.pow_zero, Nat.div_one]
      refine congrArg _ (List.map_congr_left fun i _ => ?_)
      show UInt8.ofNat (n / 256 ^ (i + 1)) = UInt8.ofNat (n / 256 / 256 ^ i)
      rw [Nat.div_div_eq_div_mul, Nat.pow_succ, Nat.mul_comm 256]
    rw [e]
    show (UInt8.ofNat n).toNat + 256 * Crc.num (le (n / 256) k) = n
    rw [ih _ (by omega), toNat_ofNat8]
    omega
theorem num_inj : ∀ (a b : List UInt8), a.length = b.length → Crc.num a = Crc.num b → a = b := by
  intro a
  induction a with
  | nil => intro b h _; cases b with
    | nil => rfl
    | cons _ _ => simp at h
  | cons c a ih => intro b h hn; cases b with
    | nil => simp at h
    | cons d b =>
      have hn' : c.toNat + 256 * Crc.num a = d.toNat + 256 * Crc.num b := hn
      have h1 := UInt8.toNat_lt c
      have h2 := UInt8.toNat_lt d
      rw [ih b (by simpa using h) (by omega)]
      rw [UInt8.toNat_inj.1 (show c.toNat = d.toNat by omega)]
/-- l is sealed just where its last four bytes are the check of the rest -/
theorem sealed_iff (l : List UInt8) (h : ¬ l.length < 4) : sealV (l.take (l.length - 4)) = l ↔ Crc.num (l.drop (l.length - 4)) = Crc.of_ (l.take (l.length - 4)) := by
  have hol : Crc.of_ (l.take (l.length - 4)) < 4294967296 := Crc.on_lt 0 _ (by omega)
  have hx : l = l.take (l.length - 4) ++ l.drop (l.length - 4) := (List.take_append_drop _ _).symm
  constructor
  · intro e
    unfold sealV at e
    have : le (Crc.of_ (l.take (l.length - 4))) 4 = l.drop (l.length - 4) := List.append_cancel_left (e.trans hx)
    rw [← this, le_num 4 _ (by omega)]
  · intro e
    unfold sealV
    have : le (Crc.of_ (l.take (l.length - 4))) 4 = l.drop (l.length - 4) := by
      apply num_inj
      · rw [le_length, List.length_drop]; omega
      · rw [le_num 4 _ (by omega), e]
    rw [this, List.take_append_drop]

set_option maxRecDepth 100000 in
set_option maxHeartbeats 2000000 in
theorem refOpen_any (v : Value) (l : List UInt8) (w : World) (h : Bs w v l) (hl : l.length ≤ 140737488355328) :
    Calls Tryd.prog 21 #[v] w fun e w' => ∃ v', e = .returned (.tuple #[v', .int .i64 (openV l).2]) ∧ Bs w' v' (openV l).1 ∧ Below w.heap.size w w' := by
  obtain ⟨A, cp, rfl, h1, h2, h3⟩ := h.open_
  by_cases h4 : l.length < 4
  · have e : openV l = ([], 2) := if_pos h4
    rw [e]
    go_enter Tryd.func21, Tryd.ntmps21
    go_wp2
    go_ret2
    exact ⟨_, rfl, Sl.nil _ _, Below.refl _ _⟩
  · obtain ⟨b, off, rfl, hb, hc⟩ := h3 (by omega)
    have hbt := hide (h.take (k := l.length - 4) (by omega))
    have hbl := hide h
    have htl : (l.take (l.length - 4)).length = l.length - 4 := by rw [List.length_take]; omega
    have e0 : openV l = if Crc.num (l.drop (l.length - 4)) ≠ Crc.of_ (l.take (l.length - 4)) then ([], 8) else (l.take (l.length - 4), 0) := if_neg h4
    have hsi := sealed_iff l h4
    have hsc := hide (fun W hW => refSeal_any (.slice (some ⟨b, off, none⟩) (l.length - 4) cp) (l.take (l.length - 4)) W hW (by omega))
    have hs1 := fun W (hW : Bs W (.slice (some ⟨b, off, none⟩) l.length cp) l) => run_str (P := Tryd.prog) 23 5 Tryd.underlying23 Tryd.underlying5 9 Tryd.underlying9 _ l hW
    have hs2 := fun W v' l' (hW : Bs W v' l') => run_str (P := Tryd.prog) 23 5 Tryd.underlying23 Tryd.underlying5 9 Tryd.underlying9 v' l' hW
    have hs1' := hide hs1
    have hs2' := hide hs2
    have hlim : (0 : Int) ≤ (l.length : Int) - 4 := by omega
    have hlim2 : (l.length : Int) - 4 ≤ (cp : Int) := by omega
    have hwr : IntKind.i64.wrap ((l.length : Int) - 4) = (l.length : Int) - 4 := IntWalk.i64_in _ (by omega)
    have htn : ((l.length : Int) - 4).toNat = l.length - 4 := by omega
    clear h3 hc h htl hs1 hs2
    generalize Crc.num (l.drop (l.length - 4)) = x at *
    generalize Crc.of_ (l.take (l.length - 4)) = y at *
    by_cases hxy : x = y
    · rw [if_neg (by simpa using hxy)] at e0
      rw [e0]
      have hsl := hide (hsi.2 hxy)
      clear hxy e0 hsi
      have hr1 := hs1'.out w.drew (hbl.out.q ⟨1, rfl⟩)
      go_enter Tryd.func21, Tryd.ntmps21
      go_wp2_with fail
      go_region_with (go_at_call 23; refine (hsc.out _ (hbt.out.q ⟨1, rfl⟩)).mono ?_; rintro e w1 ⟨v1, rfl, hown1, hb1⟩; rw [hsl.out] at hown1; have hcv := hs2'.out w1 v1 l hown1.bs; have hcw := hs1'.out w1 ((hbl.out.q ⟨1, rfl⟩).below hb1))
      all_goals
        go_wp2
        go_ret2
        exact ⟨_, rfl, (hbt.out.q ⟨1, rfl⟩).below hb1, (Q.below ⟨1, rfl⟩ _).trans hb1⟩
    · rw [if_pos hxy] at e0
      rw [e0]
      have hsl : ¬ sealV (l.take (l.length - 4)) = l := fun h => hxy (hsi.1 h)
      have hml : (sealV (l.take (l.length - 4)) == l) = false := beq_eq_false_iff_ne.2 hsl
      clear hxy e0 hsi hsl
      have hr1 := hs1'.out w.drew (hbl.out.q ⟨1, rfl⟩)
      generalize sealV (l.take (l.length - 4)) = m at *
      go_enter Tryd.func21, Tryd.ntmps21
      go_wp2_with fail
      go_region_with (go_at_call 23; refine (hsc.out _ (hbt.out.q ⟨1, rfl⟩)).mono ?_; rintro e w1 ⟨v1, rfl, hown1, hb1⟩; have hcv := hs2'.out w1 v1 m hown1.bs; have hcw := hs1'.out w1 ((hbl.out.q ⟨1, rfl⟩).below hb1))
      all_goals
        go_wp2
        go_ret2
        exact ⟨_, rfl, Sl.nil _ _, (Q.below ⟨1, rfl⟩ _).trans hb1⟩
end Go.Proofs.YtihimcgppifcbaaDoor
