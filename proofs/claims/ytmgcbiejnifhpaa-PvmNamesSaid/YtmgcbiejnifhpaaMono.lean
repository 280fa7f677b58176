/- Regions that draw their order, walked in ONE order: reads and sums are taken first wherever they may come up, if they yield the same in every later world; what makes or changes memory comes up alone. Over any program. -/
import Derived.Test.YtmgcbiejnifhpaaBase
namespace Go.Proofs.Ytmgcbiejnifhpaa
open Go.RowKit

section
variable {P : Program} {ops : Array Oper} {Q : Exit → Act → World → Prop} {md : Region.Mode} {R : World → World → Prop}

/-- does operation m wait for operation k? -/
def edgeB (md : Region.Mode) (ops : Array Oper) (m k : Nat) : Bool := match ops[m]? with
  | some o => o.after.toList.any fun e => Region.binds md e && e.on == k
  | none => false
/-- what these wait for, laid to them -/
def growB (md : Region.Mode) (ops : Array Oper) (S : List Nat) : List Nat := S ++ (List.range ops.size).filter fun k => S.any fun m => edgeB md ops m k
def growN (md : Region.Mode) (ops : Array Oper) : Nat → List Nat → List Nat
  | 0, S => S
  | n + 1, S => growN md ops n (growB md ops S)
/-- it waits for every other one, by itself or through others -/
def aloneB (md : Region.Mode) (ops : Array Oper) (j : Nat) : Bool :=
  (List.range ops.size).all fun k => k == j || (growN md ops 5 ((List.range ops.size).filter fun k => edgeB md ops j k)).contains k
/-- what is listed has all it waits for listed -/
def closedL (md : Region.Mode) (ops : Array Oper) (listed : Array Bool) : Prop := ∀ k o, ops[k]? = some o → listed.getD k false = true → ∀ e ∈ o.after, Region.binds md e = true → listed.getD e.on false = true
theorem edge_listed {md : Region.Mode} {ops : Array Oper} {listed : Array Bool} {m k : Nat} (hcl : closedL md ops listed) (hm : listed.getD m false = true) (h : edgeB md ops m k = true) : listed.getD k false = true := by
  unfold edgeB at h
  cases ho : ops[m]? with
  | none => rw [ho] at h; cases h
  | some o =>
    rw [ho] at h
    obtain ⟨e, he, h2⟩ := List.any_eq_true.1 h
    rw [Bool.and_eq_true, beq_iff_eq] at h2
    rw [← h2.2]
    exact hcl m o ho hm e (by simpa using he) h2.1
theorem grow_listed {md : Region.Mode} {ops : Array Oper} {listed : Array Bool} (hcl : closedL md ops listed) : ∀ (n : Nat) (S : List Nat), (∀ k ∈ S, listed.getD k false = true) → ∀ k ∈ growN md ops n S, listed.getD k false = true
  | 0, _, h => h
  | n + 1, S, h => grow_listed hcl n _ fun k hk => by
    rcases List.mem_append.1 hk with hk | hk
    · exact h k hk
    · obtain ⟨m, hm, he⟩ := List.any_eq_true.1 (List.mem_filter.1 hk).2
      exact edge_listed hcl (h m hm) he
theorem alone_spec {md : Region.Mode} {ops : Array Oper} {j i : Nat} {o oi : Oper} {listed : Array Bool} (h : aloneB md ops j = true) (ho : ops[j]? = some o) (hi : ops[i]? = some oi) (hij : j ≠ i)
    (hall : ∀ e ∈ o.after, Region.binds md e = true → listed.getD e.on false = true) (hcl : closedL md ops listed) (hun : listed.getD i false = false) : False := by
  unfold aloneB at h
  have h1 := List.all_eq_true.1 h i (by rw [List.mem_range]; exact (Array.getElem?_eq_some_iff.1 hi).1)
  rcases Bool.or_eq_true_iff.1 h1 with h2 | h2
  · exact hij (by simpa using (beq_iff_eq.1 h2).symm)
  · have := grow_listed hcl 5 ((List.range ops.size).filter fun k => edgeB md ops j k) (fun k hk => by
      have he := (List.mem_filter.1 hk).2
      unfold edgeB at he
      rw [ho] at he
      obtain ⟨e, he, h3⟩ := List.any_eq_true.1 he
      rw [Bool.and_eq_true, beq_iff_eq] at h3
      rw [← h3.2]
      exact hall e (by simpa using he) h3.1) i (by simpa using h2)
    rw [hun] at this; cases this
theorem getD_flip {l : Array Bool} {i : Nat} (h : l.getD i true = false) : l.getD i false = false := by
  rcases Nat.lt_or_ge i l.size with h' | h'
  · simpa [h'] using h
  · simp [Array.getElem?_eq_none h']
theorem getD_set_same {l : Array Bool} {j : Nat} {d : Bool} (h : j < l.size) : (l.setIfInBounds j true).getD j d = true := by simp [h]
theorem closed_step {md : Region.Mode} {ops : Array Oper} {listed : Array Bool} {j : Nat} (hcl : closedL md ops listed) (hj : j ∈ Region.ready md ops listed) : closedL md ops (listed.setIfInBounds j true) := by
  intro k o hk hl e he hb
  obtain ⟨_, oj, hoj, hall⟩ := mem_ready.1 hj
  have hup : ∀ x, listed.getD x false = true → (listed.setIfInBounds j true).getD x false = true := by
    intro x hx
    by_cases hjx : j = x
    · subst hjx
      rcases Nat.lt_or_ge j listed.size with h' | h'
      · exact getD_set_same h'
      · simp [Array.getElem?_eq_none h'] at hx
    · rw [getD_set_ne false hjx]; exact hx
  by_cases hjk : j = k
  · subst hjk
    rw [hoj] at hk
    cases hk
    exact hup _ (hall e he hb)
  · rw [getD_set_ne false hjk] at hl
    exact hup _ (hcl k o hk hl e he hb)

def wpAnyM (P : Program) (md : Region.Mode) (ops : Array Oper) (Q : Exit → Act → World → Prop) (R : World → World → Prop) : Nat → Array Bool → Act → World → Prop
  | 0, listed, a, w => Region.ready md ops listed = [] ∧ Q .normal a w
  | fuel + 1, listed, a, w =>
    (Region.ready md ops listed = [] → Q .normal a w) ∧
    ∀ i ∈ Region.ready md ops listed, wpOp P ops Q i (fun a' w' => (aloneB md ops i = true ∨ R w w') ∧ wpAnyM P md ops Q R fuel (listed.setIfInBounds i true) a' w') a w

theorem wpAny_of_mono : ∀ (fuel : Nat) (listed : Array Bool) (a : Act) (w : World), wpAnyM P md ops Q R fuel listed a w → wpAny P md ops Q fuel listed a w
  | 0, _, _, _, h => h
  | fuel + 1, _, _, _, h => ⟨h.1, fun i hi => wpOp_mono (fun a' w' h' => wpAny_of_mono fuel _ a' w' h'.2) (h.2 i hi)⟩

theorem yieldsIf_later {o : Oper} {v : Value} {a : Act} {w w' : World} (htr : ∀ a b c, R a b → R b c → R a c) (hr : R w w') (h : YieldsIf P ops (R w) o v a) : YieldsIf P ops (R w') o v a :=
  h.imp (fun ⟨h1, h2⟩ => ⟨h1, fun x hx => h2 x (htr _ _ _ hr hx)⟩) id

theorem wpAnyM_first (hrf : ∀ a, R a a) (htr : ∀ a b c, R a b → R b c → R a c) {i : Nat} {oi : Oper} {v : Value} (hi : ops[i]? = some oi) (hsel : ∀ (j : Nat) (o : Oper) cs b, ops[j]? = some o → o.op ≠ .select cs b)
    (hQ : ∀ c a w, Q (.panic c) (a.put oi.dst v) w → Q (.panic c) a w) :
    ∀ (fuel : Nat) (listed : Array Bool) (a : Act) (w : World),
      (∀ j oj, ops[j]? = some oj → j ≠ i → listed.getD j true = false → (∀ e ∈ oj.after, Region.binds md e = true → e.on ≠ i) → oi.apart ops oj = true) →
      closedL md ops listed → i ∈ Region.ready md ops listed → YieldsIf P ops (R w) oi v a →
      wpAnyM P md ops Q R fuel (listed.setIfInBounds i true) (a.put oi.dst v) w → wpAnyM P md ops Q R (fuel + 1) listed a w := by
  intro fuel
  induction fuel with
  | zero =>
    intro listed a w _ _ hr hy H
    refine ⟨fun h => (by rw [h] at hr; cases hr), fun j hj => ?_⟩
    by_cases hji : j = i
    · subst hji; exact hy.wpOp hi (hrf w) ⟨.inr (hrf w), H⟩
    · have := ready_mono hj hji
      rw [H.1] at this
      cases this
  | succ fuel ih =>
    intro listed a w hfree hcl hr hy H
    refine ⟨fun h => (by rw [h] at hr; cases hr), fun j hj => ?_⟩
    by_cases hji : j = i
    · subst hji; exact hy.wpOp hi (hrf w) ⟨.inr (hrf w), H⟩
    · have h1 := H.2 j (ready_mono hj hji)
      obtain ⟨hjun, oj, hoj, hall⟩ := mem_ready.1 hj
      have hnot : ∀ e ∈ oj.after, Region.binds md e = true → e.on ≠ i := fun e he hb heq => by
        have h1 := hall e he hb
        have h0 := (mem_ready.1 hr).1
        rw [heq] at h1
        rcases Nat.lt_or_ge i listed.size with h' | h'
        · simp [h'] at h0 h1; rw [h0] at h1; cases h1
        · simp [Array.getElem?_eq_none h'] at h1
      have h2 := wpOp_putIf hoj (hfree j oj hoj hji hjun hnot) (fun cs b => hsel i oi cs b hi) (fun cs b => hsel j oj cs b hoj) hQ hy h1
      have hfree' : ∀ k ok, ops[k]? = some ok → k ≠ i → (listed.setIfInBounds j true).getD k true = false →
          (∀ e ∈ ok.after, Region.binds md e = true → e.on ≠ i) → oi.apart ops ok = true := fun k ok hk hki hun hno => by
        refine hfree k ok hk hki ?_ hno
        by_cases hjk : j = k
        · subst hjk; exact hjun
        · rw [getD_set_ne true hjk] at hun; exact hun
      refine wpOp_mono (fun a' w' h3 => ?_) h2
      have hri := ready_mono hr (Ne.symm hji)
      have hR : R w w' := by
        rcases h3.2.1 with h | h
        · exact (alone_spec h hoj hi hji hall hcl (getD_flip (mem_ready.1 hr).1)).elim
        · exact h
      refine ⟨.inr hR, ih (listed.setIfInBounds j true) a' w' hfree' (closed_step hcl hj) hri (yieldsIf_later htr hR h3.1) ?_⟩
      rw [Array.setIfInBounds_comm _ _ hji]
      exact h3.2.2

/-- A plan: the operations in one order; 'true': taken first, 'false': comes up alone. -/
def planB (md : Region.Mode) (ops : Array Oper) : List (Bool × Nat) → Array Bool → Bool
  | [], listed => (Region.ready md ops listed).isEmpty
  | (true, i) :: rest, listed => (Region.ready md ops listed).contains i && Region.free md ops listed i && planB md ops rest (listed.setIfInBounds i true)
  | (false, i) :: rest, listed => (Region.ready md ops listed == [i]) && planB md ops rest (listed.setIfInBounds i true)

/-- The greedy plan: whatever of the named kind may be taken first is; else what comes up alone. -/
def mkPlan (md : Region.Mode) (ops : Array Oper) (fl : Op → Bool) : Nat → Array Bool → List (Bool × Nat)
  | 0, _ => []
  | fuel + 1, listed =>
    let r := Region.ready md ops listed
    match r.find? fun i => (match ops[i]? with | some o => fl o.op | none => false) && Region.free md ops listed i with
    | some i => (true, i) :: mkPlan md ops fl fuel (listed.setIfInBounds i true)
    | none => match r with
      | i :: _ => (false, i) :: mkPlan md ops fl fuel (listed.setIfInBounds i true)
      | [] => []

def wpPlan (P : Program) (ops : Array Oper) (Q : Exit → Act → World → Prop) (R : World → World → Prop) : List (Bool × Nat) → Act → World → Prop
  | [], a, w => Q .normal a w
  | (true, i) :: rest, a, w => ∃ o v, ops[i]? = some o ∧ YieldsIf P ops (R w) o v a ∧ wpPlan P ops Q R rest (a.put o.dst v) w
  | (false, i) :: rest, a, w => wpOp P ops Q i (fun a' w' => (aloneB .any ops i = true ∨ R w w') ∧ wpPlan P ops Q R rest a' w') a w

theorem plan_sound (hrf : ∀ a, R a a) (htr : ∀ a b c, R a b → R b c → R a c) (hsel : Region.noSelect ops = true) (hQ : ∀ c a d v w, Q (.panic c) (Act.put a d v) w → Q (.panic c) a w) :
    ∀ (plan : List (Bool × Nat)) (listed : Array Bool) (a : Act) (w : World), closedL .any ops listed → planB .any ops plan listed = true → wpPlan P ops Q R plan a w → wpAnyM P .any ops Q R plan.length listed a w
  | [], listed, a, w, _, hb, h => ⟨by simpa [planB] using hb, h⟩
  | (true, i) :: rest, listed, a, w, hcl, hb, h => by
    simp only [planB, Bool.and_eq_true] at hb
    obtain ⟨⟨h1, h2⟩, h3⟩ := hb
    obtain ⟨o, v, hi, hy, hrest⟩ := h
    exact wpAnyM_first hrf htr hi (Region.noSelect_spec hsel) (fun c a w h => hQ c a _ v w h) rest.length listed a w (Region.free_spec hi h2) hcl (by simpa using h1) hy
      (plan_sound hrf htr hsel hQ rest _ _ w (closed_step hcl (by simpa using h1)) h3 hrest)
  | (false, i) :: rest, listed, a, w, hcl, hb, h => by
    simp only [planB, Bool.and_eq_true, beq_iff_eq] at hb
    obtain ⟨h1, h3⟩ := hb
    refine ⟨fun h0 => (by rw [h1] at h0; cases h0), fun j hj => ?_⟩
    have hj0 := hj
    rw [h1] at hj
    obtain rfl : j = i := by simpa using hj
    exact wpOp_mono (fun a' w' h' => ⟨h'.1, plan_sound hrf htr hsel hQ rest _ a' w' (closed_step hcl hj0) h3 h'.2⟩) h

theorem region_plan (plan : List (Bool × Nat)) (R : World → World → Prop) (hrf : ∀ a, R a a) (htr : ∀ a b c, R a b → R b c → R a c) {id : Nat} {l : List Oper} {a : Act} {w : World} (hm : P.follows .mixedOrders = true)
    (hb : (Region.noSelect l.toArray && (plan.length == l.length) && planB .any l.toArray plan (Array.replicate l.length false)) = true)
    (hQ : ∀ c a d v w, Q (.panic c) (Act.put a d v) w → Q (.panic c) a w) (h : wpPlan P l.toArray Q R plan a w.drew) : (Code.region id l.toArray true).wp P Q a w := by
  simp only [Bool.and_eq_true, beq_iff_eq] at hb
  obtain ⟨⟨h1, h2⟩, h3⟩ := hb
  refine wp_region_any hm ?_
  have := plan_sound hrf htr h1 hQ plan _ a _ (fun k o _ hl => by rcases Nat.lt_or_ge k l.length with h' | h' <;> simp [h'] at hl) h3 h
  rw [h2] at this
  have := wpAny_of_mono _ _ _ _ this
  simpa using this

/-- the operation number i, as it is written -/
def nthO : List Oper → Nat → Option Oper
  | [], _ => none
  | o :: _, 0 => some o
  | _ :: l, i + 1 => nthO l i
theorem nthO_eq : ∀ (l : List Oper) (i : Nat), l.toArray[i]? = nthO l i
  | [], _ => rfl
  | _ :: _, 0 => rfl
  | _ :: l, i + 1 => by
    have h := nthO_eq l i
    simp only [List.getElem?_toArray] at h ⊢
    rw [List.getElem?_cons_succ]
    exact h

/-- a read or a sum, taken first -/
theorem plan_take {l : List Oper} {i : Nat} {rest : List (Bool × Nat)} {a : Act} {w : World} {o : Oper} {v : Value} (hi : nthO l i = some o) (hw : Region.wanted o (yielded l.toArray a.tmps) = true)
    (hv : ∀ w', R w w' → (execOp a.eval o).run P w' = .ok (.value v) w') (h : wpPlan P l.toArray Q R rest (a.put o.dst v) w) : wpPlan P l.toArray Q R ((true, i) :: rest) a w :=
  ⟨o, v, (nthO_eq l i).trans hi, .inl ⟨hw, hv⟩, h⟩
/-- an operation that is not wanted -/
theorem plan_skip {l : List Oper} {i : Nat} {rest : List (Bool × Nat)} {a : Act} {w : World} {o : Oper} (hi : nthO l i = some o) (hw : Region.wanted o (yielded l.toArray a.tmps) = false)
    (h : wpPlan P l.toArray Q R rest (a.put o.dst undef) w) : wpPlan P l.toArray Q R ((true, i) :: rest) a w :=
  ⟨o, undef, (nthO_eq l i).trans hi, .inr ⟨hw, rfl⟩, h⟩
theorem plan_skip_eff {l : List Oper} {i : Nat} {rest : List (Bool × Nat)} {a : Act} {w : World} {o : Oper} (hrf : ∀ a, R a a) (hi : nthO l i = some o) (hw : Region.wanted o (yielded l.toArray a.tmps) = false)
    (h : wpPlan P l.toArray Q R rest (a.put o.dst undef) w) : wpPlan P l.toArray Q R ((false, i) :: rest) a w := by
  unfold wpPlan wpOp
  simp only [(nthO_eq l i).trans hi, hw]
  exact ⟨.inr (hrf w), h⟩
/-- what makes or changes memory, or a call -/
theorem plan_eff {l : List Oper} {i : Nat} {rest : List (Bool × Nat)} {a : Act} {w : World} {o : Oper} (hi : nthO l i = some o) (hw : Region.wanted o (yielded l.toArray a.tmps) = true)
    (h : ∀ K : Act → World → Prop, (∀ a' w', R w w' → wpPlan P l.toArray Q R rest a' w' → K a' w') → o.wp P a w K Q) : wpPlan P l.toArray Q R ((false, i) :: rest) a w := by
  unfold wpPlan wpOp
  simp only [(nthO_eq l i).trans hi, hw, if_true]
  exact .inl (h _ fun a' w' h1 h2 => ⟨.inr h1, h2⟩)
/-- the last one: of the world behind it nothing is asked -/
theorem plan_eff_last {l : List Oper} {i : Nat} {a : Act} {w : World} {o : Oper} (hal : aloneB .any l.toArray i = true) (hi : nthO l i = some o) (hw : Region.wanted o (yielded l.toArray a.tmps) = true)
    (h : ∀ K : Act → World → Prop, (∀ a' w', Q .normal a' w' → K a' w') → o.wp P a w K Q) : wpPlan P l.toArray Q R [(false, i)] a w := by
  unfold wpPlan wpOp
  simp only [(nthO_eq l i).trans hi, hw, if_true]
  exact .inl (h _ fun a' w' h1 => ⟨.inl hal, h1⟩)
theorem plan_nil {a : Act} {w : World} (h : Q .normal a w) : wpPlan P ops Q R [] a w := h
end

/-- A later world: what was there is as it was, but for the blocks F. -/
def Later (F : Nat → Prop) (w w' : World) : Prop := w.heap.size ≤ w'.heap.size ∧ ∀ k, k < w.heap.size → ¬ F k → w'.heap[k]? = w.heap[k]?
theorem later_refl (F : Nat → Prop) : ∀ a, Later F a a := fun _ => ⟨Nat.le_refl _, fun _ _ _ => rfl⟩
theorem later_trans (F : Nat → Prop) : ∀ a b c, Later F a b → Later F b c → Later F a c := fun _ _ _ h k => ⟨Nat.le_trans h.1 k.1, fun x hx hf => (k.2 x (Nat.lt_of_lt_of_le hx h.1) hf).trans (h.2 x hx hf)⟩
theorem later_setCell {F : Nat → Prop} (w : World) {p : Addr} (u : Value) (hp : F p.block) : Later F w (w.setCell p u) :=
  ⟨by simp [World.setCell], fun k _ hk => Below.heap_setCell w p u k (fun e => hk (e ▸ hp))⟩
theorem later_alloc {F : Nat → Prop} (w : World) (o : Obj) : Later F w (w.alloc o) := ⟨by simp, fun k hk _ => Below.heap_alloc w o k hk⟩
theorem later_drew {F : Nat → Prop} (w : World) : Later F w w.drew := ⟨Nat.le_refl _, fun _ _ _ => rfl⟩
theorem later_grown {F : Nat → Prop} {w w' : World} {row : Option Nat} (h : w.grownBy w' row) (hr : ∀ k, row = some k → F k) : Later F w w' := ⟨h.size, fun k hk hf => h.block k hk (fun e => hf (hr k e.symm))⟩
theorem below_later {w w' : World} {B : Nat} (h : Below B w w') (hB : w.heap.size ≤ B) : Later (fun _ => False) w w' := ⟨h.size, fun k hk _ => h.block k (by omega)⟩
end Go.Proofs.Ytmgcbiejnifhpaa
