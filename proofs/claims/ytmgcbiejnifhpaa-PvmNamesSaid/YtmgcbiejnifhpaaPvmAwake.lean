/- law 08's awake walked. -/
import Derived.Test.YtmgcbiejnifhpaaPvmRun
import Derived.Test.YtmgcbiejnifhpaaPvmNew
namespace Go.Proofs.Ytmgcbiejnifhpaa
open Go.RowKit
def aw0 : Nat → Int := fun _ => 0
def aw1 : Nat → Int := fun j => if j = 0 then 5 else 0
theorem inss2 (w : World) (i : Ins) (T : TypeId) : Inss (w.alloc (.cells #[.int .u8 (i.o : Nat), .int .u8 (i.a : Nat), .int .u8 (i.b : Nat), .int .u8 (i.c : Nat), .int .u8 0, .int .u8 0, .int .u8 0, .int .u8 0] T)) (.slice (some ⟨w.heap.size, 0, none⟩) 2 2) [i, hlt] :=
  ⟨_, 2, rfl, Nat.le_refl _, by simp [maxLen], by simp [insV], fun _ => ⟨w.heap.size, 0, rfl, by simp, fun j u hu => by
    have := cell_of_row (w.alloc (.cells #[.int .u8 (i.o : Nat), .int .u8 (i.a : Nat), .int .u8 (i.b : Nat), .int .u8 (i.c : Nat), .int .u8 0, .int .u8 0, .int .u8 0, .int .u8 0] T)) w.heap.size (0 + j) _ _ _ (heap_alloc_new w _)
    rw [this, Nat.zero_add, ← Array.getElem?_toList]
    exact hu⟩⟩
theorem Inss.below {w w' : World} {v : Value} {l : List Ins} (h : Inss w v l) (hb : Below w.heap.size w w') : Inss w' v l := Sl.below h hb
theorem ok2 (i : Ins) (h : i.Ok) : ∀ x ∈ [i, hlt], x.Ok := fun x hx => by
  simp only [List.mem_cons, List.not_mem_nil, or_false] at hx
  rcases hx with rfl | rfl
  · exact h
  · exact ⟨by decide, by decide, by decide, by decide⟩
set_option maxRecDepth 100000 in
set_option maxHeartbeats 4000000 in
theorem step_set (lv : Value) (A : Option Addr) (cp : Nat) (w : World) (h : Inss w lv [⟨1, 0, 5, 0⟩, hlt]) (hm : Sl w 1 (.slice A 0 cp) 0 (i64V [])) :
    Calls Try.prog 13 #[lv, .agg #[.int .i64 0, .int .i64 (aw0 0), .int .i64 (aw0 1), .int .i64 (aw0 2), .int .i64 (aw0 3), .int .i64 (aw0 4), .int .i64 (aw0 5), .int .i64 (aw0 6), .int .i64 (aw0 7), .slice A 0 cp, .int .i64 0, .int .i64 0]] w fun e w' => ∃ A' cp', e = .returned (.tuple #[.agg #[.int .i64 1, .int .i64 (aw1 0), .int .i64 (aw1 1), .int .i64 (aw1 2), .int .i64 (aw1 3), .int .i64 (aw1 4), .int .i64 (aw1 5), .int .i64 (aw1 6), .int .i64 (aw1 7), .slice A' 0 cp', .int .i64 0, .int .i64 0], .agg #[.int .i64 0, .int .i64 0]]) ∧ Sl w' 1 (.slice A' 0 cp') 0 (i64V []) ∧ Below w.heap.size w w' :=
  step_do lv [⟨1, 0, 5, 0⟩, hlt] (ok2 _ ⟨by decide, by decide, by decide, by decide⟩) 0 (by decide) (by decide) aw0 [] (by decide) A 0 cp rfl 0 w h hm (by decide) 1 aw1 0 0 0 0
    (fun A cp w => (do_set8 0 (by decide) (by decide) aw0 A 0 cp 0 0 0 5 0 (by decide) ⟨by decide, by decide, by decide, by decide⟩ w).mono (by rintro e w' ⟨rfl, hb⟩; exact ⟨rfl, hb⟩))
set_option maxRecDepth 100000 in
set_option maxHeartbeats 4000000 in
theorem step_div (lv : Value) (A : Option Addr) (cp : Nat) (w : World) (h : Inss w lv [⟨6, 0, 0, 1⟩, hlt]) (hm : Sl w 1 (.slice A 0 cp) 0 (i64V [])) :
    Calls Try.prog 13 #[lv, .agg #[.int .i64 0, .int .i64 (aw0 0), .int .i64 (aw0 1), .int .i64 (aw0 2), .int .i64 (aw0 3), .int .i64 (aw0 4), .int .i64 (aw0 5), .int .i64 (aw0 6), .int .i64 (aw0 7), .slice A 0 cp, .int .i64 0, .int .i64 0]] w fun e w' => ∃ A' cp', e = .returned (.tuple #[.agg #[.int .i64 0, .int .i64 (aw0 0), .int .i64 (aw0 1), .int .i64 (aw0 2), .int .i64 (aw0 3), .int .i64 (aw0 4), .int .i64 (aw0 5), .int .i64 (aw0 6), .int .i64 (aw0 7), .slice A' 0 cp', .int .i64 2, .int .i64 80], .agg #[.int .i64 3, .int .i64 80]]) ∧ Sl w' 1 (.slice A' 0 cp') 0 (i64V []) ∧ Below w.heap.size w w' :=
  step_do lv [⟨6, 0, 0, 1⟩, hlt] (ok2 _ ⟨by decide, by decide, by decide, by decide⟩) 0 (by decide) (by decide) aw0 [] (by decide) A 0 cp rfl 0 w h hm (by decide) 0 aw0 2 80 3 80
    (fun A cp w => do_div0 0 (by decide) (by decide) aw0 A 0 cp 0 0 0 0 1 (by decide) rfl w)
set_option maxRecDepth 100000 in
set_option maxHeartbeats 4000000 in
theorem step_call (lv : Value) (A : Option Addr) (cp : Nat) (w : World) (h : Inss w lv [⟨17, 7, 0, 0⟩, hlt]) (hm : Sl w 1 (.slice A 0 cp) 0 (i64V [])) :
    Calls Try.prog 13 #[lv, .agg #[.int .i64 0, .int .i64 (aw0 0), .int .i64 (aw0 1), .int .i64 (aw0 2), .int .i64 (aw0 3), .int .i64 (aw0 4), .int .i64 (aw0 5), .int .i64 (aw0 6), .int .i64 (aw0 7), .slice A 0 cp, .int .i64 0, .int .i64 0]] w fun e w' => ∃ A' cp', e = .returned (.tuple #[.agg #[.int .i64 1, .int .i64 (aw0 0), .int .i64 (aw0 1), .int .i64 (aw0 2), .int .i64 (aw0 3), .int .i64 (aw0 4), .int .i64 (aw0 5), .int .i64 (aw0 6), .int .i64 (aw0 7), .slice A' 0 cp', .int .i64 0, .int .i64 0], .agg #[.int .i64 1, .int .i64 7]]) ∧ Sl w' 1 (.slice A' 0 cp') 0 (i64V []) ∧ Below w.heap.size w w' :=
  step_do lv [⟨17, 7, 0, 0⟩, hlt] (ok2 _ ⟨by decide, by decide, by decide, by decide⟩) 0 (by decide) (by decide) aw0 [] (by decide) A 0 cp rfl 0 w h hm (by decide) 1 aw0 0 0 1 7
    (fun A cp w => (do_call8 0 (by decide) (by decide) aw0 A 0 cp 0 0 7 0 0 (by decide) w).mono (by rintro e w' ⟨rfl, hb⟩; exact ⟨rfl, hb⟩))
set_option maxRecDepth 100000 in
theorem run_call (lv : Value) (A : Option Addr) (cp : Nat) (w : World) (h : Inss w lv [⟨17, 7, 0, 0⟩, hlt]) (hm : Sl w 1 (.slice A 0 cp) 0 (i64V [])) :
    Calls Try.prog 19 #[lv, .agg #[.int .i64 0, .int .i64 (aw0 0), .int .i64 (aw0 1), .int .i64 (aw0 2), .int .i64 (aw0 3), .int .i64 (aw0 4), .int .i64 (aw0 5), .int .i64 (aw0 6), .int .i64 (aw0 7), .slice A 0 cp, .int .i64 0, .int .i64 0], .int .i64 9] w fun e w' => ∃ A' cp', e = .returned (.tuple #[.agg #[.int .i64 1, .int .i64 (aw0 0), .int .i64 (aw0 1), .int .i64 (aw0 2), .int .i64 (aw0 3), .int .i64 (aw0 4), .int .i64 (aw0 5), .int .i64 (aw0 6), .int .i64 (aw0 7), .slice A' 0 cp', .int .i64 0, .int .i64 0], .agg #[.int .i64 1, .int .i64 7], .int .i64 1]) ∧ Below w.heap.size w w' :=
  run_first lv [⟨17, 7, 0, 0⟩, hlt] 0 aw0 [] (by decide) A 0 cp rfl 0 w h hm 1 aw0 0 0 1 7 (by decide) 9 (by decide) (fun A cp w h hm => step_call lv A cp w h hm)
end Go.Proofs.Ytmgcbiejnifhpaa
