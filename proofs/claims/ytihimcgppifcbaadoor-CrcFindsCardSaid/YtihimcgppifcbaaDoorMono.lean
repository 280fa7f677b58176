/- Regions that draw their order, walked in ONE order: reads and sums are taken first wherever they may come up, if they yield the same in every later world; what makes or changes memory comes up alone. Over any program. -/
import Derived.Test.YtihimcgppifcbaaDoorBase
namespace Go.Proofs.YtihimcgppifcbaaDoor
open Go.RowKit

section
variable {P : Program} {ops : Array Oper} {Q : Exit → Act → World → Prop} {md : Region.Mode} {R : World → World → Prop}

def wpAnyM (P : Program) (md : Region.Mode) (ops : Array Oper) (Q : Exit → Act → World → Prop) (R : World → World → Prop) : Nat → Array Bool → Act → World → Prop
  | 0, listed, a, w => Region.ready md ops listed = [] ∧ Q .normal a w
  | fuel + 1, listed, a, w =>
    (Region.ready md ops listed = [] → Q .normal a w) ∧
    ∀ i ∈ Region.ready md ops listed, wpOp P ops Q i (fun a' w' => R w w' ∧ wpAnyM P md ops Q R fuel (listed.setIfInBounds i true) a' w') a w

theorem wpAny_of_mono : ∀ (fuel : Nat) (listed : Array Bool) (a : Act) (w : World), wpAnyM P md ops Q R fuel listed a w → wpAny P md ops Q fuel listed a w
  | 0, _, _, _, h => h
  | fuel + 1, _, _, _, h => ⟨h.1, fun i hi => wpOp_mono (fun a' w' h' => wpAny_of_mono fuel _ a' w' h'.2) (h.2 i hi)⟩

theorem yieldsIf_later {o : Oper} {v : Value} {a : Act} {w w' : World} (htr : ∀ a b c, R a b → R b c → R a c) (hr : R w w') (h : YieldsIf P ops (R w) o v a) : YieldsIf P ops (R w') o v a :=
  h.imp (fun ⟨h1, h2⟩ => ⟨h1, fun x hx => h2 x (htr _ _ _ hr hx)⟩) id

theorem wpAnyM_first (hrf : ∀ a, R a a) (htr : ∀ a b c, R a b → R b c → R a c) {i : Nat} {oi : Oper} {v : Value} (hi : ops[i]? = some oi) (hsel : ∀ (j : Nat) (o : Oper) cs b, ops[j]? = some o → o.op ≠ .select cs b)
    (hQ : ∀ c a w, Q (.panic c) (a.put oi.dst v) w → Q (.panic c) a w) :
    ∀ (fuel : Nat) (listed : Array Bool) (a : Act) (w : World),
      (∀ j oj, ops[j]? = some oj → j ≠ i → listed.getD j true = false → (∀ e ∈ oj.after, Region.binds md e = true → e.on ≠ i) → oi.apart ops oj = true) →
      i ∈ Region.ready md ops listed → YieldsIf P ops (R w) oi v a →
      wpAnyM P md ops Q R fuel (listed.setIfInBounds i true) (a.put oi.dst v) w → wpAnyM P md ops Q R (fuel + 1) listed a w := by
  intro fuel
  induction fuel with
  | zero =>
    intro listed a w _ hr hy H
    refine ⟨fun h => (by rw [h] at hr; cases hr), fun j hj => ?_⟩
    by_cases hji : j = i
    · subst hji; exact hy.wpOp hi (hrf w) ⟨hrf w, H⟩
    · have := ready_mono hj hji
      rw [H.1] at this
      cases this
  | succ fuel ih =>
    intro listed a w hfree hr hy H
    refine ⟨fun h => (by rw [h] at hr; cases hr), fun j hj => ?_⟩
    by_cases hji : j = i
    · subst hji; exact hy.wpOp hi (hrf w) ⟨hrf w, H⟩
    · have h1 := H.2 j (ready_mono hj hji)
      obtain ⟨hjun, oj, hoj, hall⟩ := mem_ready.1 hj
      have hnot : ∀ e ∈ oj.after, Region.binds md e = true → e.on ≠ i := fun e he hb heq => by
        have h1 := hall e he hb
        have h0 := (mem_ready.1 hr).1
        rw [heq] at h1
        rcases Nat.lt_or_ge i listed.size with h' | h'
        · simp [h'] at h0 h1; rw [h0] at h1; cases h1
        · simp [Array.getElem?_eq_none h'] at h1
      have h2 := wpOp_putIf hoj (hfree j oj hoj hji hjun hnot) (fun cs b => hsel i oi cs b hi) (fun cs b => hsel j oj cs b hoj) hQ hy h1
      have hfree' : ∀ k ok, ops[k]? = some ok → k ≠ i → (listed.setIfInBounds j true).getD k true = false →
          (∀ e ∈ ok.after, Region.binds md e = true → e.on ≠ i) → oi.apart ops ok = true := fun k ok hk hki hun hno => by
        refine hfree k ok hk hki ?_ hno
        by_cases hjk : j = k
        · subst hjk; exact hjun
        · rw [getD_set_ne true hjk] at hun; exact hun
      refine wpOp_mono (fun a' w' h3 => ⟨h3.2.1, ih (listed.setIfInBounds j true) a' w' hfree' (ready_mono hr (Ne.symm hji)) (yieldsIf_later htr h3.2.1 h3.1) ?_⟩) h2
      rw [Array.setIfInBounds_comm _ _ hji]
      exact h3.2.2

/-- A plan: the operations in one order; 'true': taken first, 'false': comes up alone. -/
def planB (md : Region.Mode) (ops : Array Oper) : List (Bool × Nat) → Array Bool → Bool
  | [], listed => (Region.ready md ops listed).isEmpty
  | (true, i) :: rest, listed => (Region.ready md ops listed).contains i && Region.free md ops listed i && planB md ops rest (listed.setIfInBounds i true)
  | (false, i) :: rest, listed => (Region.ready md ops listed == [i]) && planB md ops rest (listed.setIfInBounds i true)

/-- The greedy plan: whatever of the named kind may be taken first is; else what comes up alone. -/
def mkPlan (md : Region.Mode) (ops : Array Oper) (fl : Op → Bool) : Nat → Array Bool → List (Bool × Nat)
  | 0, _ => []
  | fuel + 1, listed =>
    let r := Region.ready md ops listed
    match r.find? fun i => (match ops[i]? with | some o => fl o.op | none => false) && Region.free md ops listed i with
    | some i => (true, i) :: mkPlan md ops fl fuel (listed.setIfInBounds i true)
    | none => match r with
      | i :: _ => (false, i) :: mkPlan md ops fl fuel (listed.setIfInBounds i true)
      | [] => []

def wpPlan (P : Program) (ops : Array Oper) (Q : Exit → Act → World → Prop) (R : World → World → Prop) : List (Bool × Nat) → Act → World → Prop
  | [], a, w => Q .normal a w
  | (true, i) :: rest, a, w => ∃ o v, ops[i]? = some o ∧ YieldsIf P ops (R w) o v a ∧ wpPlan P ops Q R rest (a.put o.dst v) w
  | (false, i) :: rest, a, w => wpOp P ops Q i (fun a' w' => R w w' ∧ wpPlan P ops Q R rest a' w') a w

theorem plan_sound (hrf : ∀ a, R a a) (htr : ∀ a b c, R a b → R b c → R a c) (hsel : Region.noSelect ops = true) (hQ : ∀ c a d v w, Q (.panic c) (Act.put a d v) w → Q (.panic c) a w) :
    ∀ (plan : List (Bool × Nat)) (listed : Array Bool) (a : Act) (w : World), planB md ops plan listed = true → wpPlan P ops Q R plan a w → wpAnyM P md ops Q R plan.length listed a w
  | [], listed, a, w, hb, h => ⟨by simpa [planB] using hb, h⟩
  | (true, i) :: rest, listed, a, w, hb, h => by
    simp only [planB, Bool.and_eq_true] at hb
    obtain ⟨⟨h1, h2⟩, h3⟩ := hb
    obtain ⟨o, v, hi, hy, hrest⟩ := h
    exact wpAnyM_first hrf htr hi (Region.noSelect_spec hsel) (fun c a w h => hQ c a _ v w h) rest.length listed a w (Region.free_spec hi h2) (by simpa using h1) hy
      (plan_sound hrf htr hsel hQ rest _ _ w h3 hrest)
  | (false, i) :: rest, listed, a, w, hb, h => by
    simp only [planB, Bool.and_eq_true, beq_iff_eq] at hb
    obtain ⟨h1, h3⟩ := hb
    refine ⟨fun h0 => (by rw [h1] at h0; cases h0), fun j hj => ?_⟩
    rw [h1] at hj
    obtain rfl : j = i := by simpa using hj
    exact wpOp_mono (fun a' w' h' => ⟨h'.1, plan_sound hrf htr hsel hQ rest _ a' w' h3 h'.2⟩) h

theorem region_plan (plan : List (Bool × Nat)) (R : World → World → Prop) (hrf : ∀ a, R a a) (htr : ∀ a b c, R a b → R b c → R a c) {id : Nat} {l : List Oper} {a : Act} {w : World} (hm : P.follows .mixedOrders = true)
    (hb : (Region.noSelect l.toArray && (plan.length == l.length) && planB .any l.toArray plan (Array.replicate l.length false)) = true)
    (hQ : ∀ c a d v w, Q (.panic c) (Act.put a d v) w → Q (.panic c) a w) (h : wpPlan P l.toArray Q R plan a w.drew) : (Code.region id l.toArray true).wp P Q a w := by
  simp only [Bool.and_eq_true, beq_iff_eq] at hb
  obtain ⟨⟨h1, h2⟩, h3⟩ := hb
  refine wp_region_any hm ?_
  have := plan_sound hrf htr h1 hQ plan _ a _ h3 h
  rw [h2] at this
  have := wpAny_of_mono _ _ _ _ this
  simpa using this

/-- the operation number i, as it is written -/
def nthO : List Oper → Nat → Option Oper
  | [], _ => none
  | o :: _, 0 => some o
  | _ :: l, i + 1 => nthO l i
theorem nthO_eq : ∀ (l : List Oper) (i : Nat), l.toArray[i]? = nthO l i
  | [], _ => rfl
  | _ :: _, 0 => rfl
  | _ :: l, i + 1 => by
    have h := nthO_eq l i
    simp only [List.getElem?_toArray] at h ⊢
    rw [List.getElem?_cons_succ]
    exact h

/-- a read or a sum, taken first -/
theorem plan_take {l : List Oper} {i : Nat} {rest : List (Bool × Nat)} {a : Act} {w : World} {o : Oper} {v : Value} (hi : nthO l i = some o) (hw : Region.wanted o (yielded l.toArray a.tmps) = true)
    (hv : ∀ w', R w w' → (execOp a.eval o).run P w' = .ok (.value v) w') (h : wpPlan P l.toArray Q R rest (a.put o.dst v) w) : wpPlan P l.toArray Q R ((true, i) :: rest) a w :=
  ⟨o, v, (nthO_eq l i).trans hi, .inl ⟨hw, hv⟩, h⟩
/-- an operation that is not wanted -/
theorem plan_skip {l : List Oper} {i : Nat} {rest : List (Bool × Nat)} {a : Act} {w : World} {o : Oper} (hi : nthO l i = some o) (hw : Region.wanted o (yielded l.toArray a.tmps) = false)
    (h : wpPlan P l.toArray Q R rest (a.put o.dst undef) w) : wpPlan P l.toArray Q R ((true, i) :: rest) a w :=
  ⟨o, undef, (nthO_eq l i).trans hi, .inr ⟨hw, rfl⟩, h⟩
theorem plan_skip_eff {l : List Oper} {i : Nat} {rest : List (Bool × Nat)} {a : Act} {w : World} {o : Oper} (hrf : ∀ a, R a a) (hi : nthO l i = some o) (hw : Region.wanted o (yielded l.toArray a.tmps) = false)
    (h : wpPlan P l.toArray Q R rest (a.put o.dst undef) w) : wpPlan P l.toArray Q R ((false, i) :: rest) a w := by
  unfold wpPlan wpOp
  simp only [(nthO_eq l i).trans hi, hw]
  exact ⟨hrf w, h⟩
/-- what makes or changes memory, or a call -/
theorem plan_eff {l : List Oper} {i : Nat} {rest : List (Bool × Nat)} {a : Act} {w : World} {o : Oper} (hi : nthO l i = some o) (hw : Region.wanted o (yielded l.toArray a.tmps) = true)
    (h : ∀ K : Act → World → Prop, (∀ a' w', R w w' → wpPlan P l.toArray Q R rest a' w' → K a' w') → o.wp P a w K Q) : wpPlan P l.toArray Q R ((false, i) :: rest) a w := by
  unfold wpPlan wpOp
  simp only [(nthO_eq l i).trans hi, hw, if_true]
  exact .inl (h _ fun a' w' h1 h2 => ⟨h1, h2⟩)
theorem plan_nil {a : Act} {w : World} (h : Q .normal a w) : wpPlan P ops Q R [] a w := h
end

/-- A later world: what was there is as it was, but for the blocks F. -/
def Later (F : Nat → Prop) (w w' : World) : Prop := w.heap.size ≤ w'.heap.size ∧ ∀ k, k < w.heap.size → ¬ F k → w'.heap[k]? = w.heap[k]?
theorem later_refl (F : Nat → Prop) : ∀ a, Later F a a := fun _ => ⟨Nat.le_refl _, fun _ _ _ => rfl⟩
theorem later_trans (F : Nat → Prop) : ∀ a b c, Later F a b → Later F b c → Later F a c := fun _ _ _ h k => ⟨Nat.le_trans h.1 k.1, fun x hx hf => (k.2 x (Nat.lt_of_lt_of_le hx h.1) hf).trans (h.2 x hx hf)⟩
theorem later_setCell {F : Nat → Prop} (w : World) {p : Addr} (u : Value) (hp : F p.block) : Later F w (w.setCell p u) :=
  ⟨by simp [World.setCell], fun k _ hk => Below.heap_setCell w p u k (fun e => hk (e ▸ hp))⟩
theorem later_alloc {F : Nat → Prop} (w : World) (o : Obj) : Later F w (w.alloc o) := ⟨by simp, fun k hk _ => Below.heap_alloc w o k hk⟩
theorem later_drew {F : Nat → Prop} (w : World) : Later F w w.drew := ⟨Nat.le_refl _, fun _ _ _ => rfl⟩
theorem later_grown {F : Nat → Prop} {w w' : World} {row : Option Nat} (h : w.grownBy w' row) (hr : ∀ k, row = some k → F k) : Later F w w' := ⟨h.size, fun k hk hf => h.block k hk (fun e => hf (hr k e.symm))⟩
theorem below_later {w w' : World} {B : Nat} (h : Below B w w') (hB : w.heap.size ≤ B) : Later (fun _ => False) w w' := ⟨h.size, fun k hk _ => h.block k (by omega)⟩
end Go.Proofs.YtihimcgppifcbaaDoor
