/- Regions that draw, where two operations may come up, one before the other. -/
import Derived.Test.YtamkngpkplflcaaMono
namespace Go.Proofs.Ytamkngpkplflcaa
open Go.RowKit

/-- a plan with forks -/
inductive PT where
  | nil : PT
  | take : Nat → PT → PT
  | eff : Nat → PT → PT
  | two : Nat → Nat → PT → PT → PT
def PT.len : PT → Nat
  | .nil => 0
  | .take _ p => p.len + 1
  | .eff _ p => p.len + 1
  | .two _ _ p _ => p.len + 1
def planT (md : Region.Mode) (ops : Array Oper) : PT → Array Bool → Bool
  | .nil, listed => (Region.ready md ops listed).isEmpty
  | .take i rest, listed => (Region.ready md ops listed).contains i && Region.free md ops listed i && planT md ops rest (listed.setIfInBounds i true)
  | .eff i rest, listed => (Region.ready md ops listed == [i]) && planT md ops rest (listed.setIfInBounds i true)
  | .two i j p q, listed => (Region.ready md ops listed == [i, j]) && (p.len == q.len) && planT md ops p (listed.setIfInBounds i true) && planT md ops q (listed.setIfInBounds j true)
def wpT (P : Program) (ops : Array Oper) (Q : Exit → Act → World → Prop) (R : World → World → Prop) : PT → Act → World → Prop
  | .nil, a, w => Q .normal a w
  | .take i rest, a, w => ∃ o v, ops[i]? = some o ∧ YieldsIf P ops (R w) o v a ∧ wpT P ops Q R rest (a.put o.dst v) w
  | .eff i rest, a, w => wpOp P ops Q i (fun a' w' => (aloneB .any ops i = true ∨ R w w') ∧ wpT P ops Q R rest a' w') a w
  | .two i j p q, a, w => wpOp P ops Q i (fun a' w' => (aloneB .any ops i = true ∨ R w w') ∧ wpT P ops Q R p a' w') a w ∧ wpOp P ops Q j (fun a' w' => (aloneB .any ops j = true ∨ R w w') ∧ wpT P ops Q R q a' w') a w
section
variable {P : Program} {ops : Array Oper} {Q : Exit → Act → World → Prop} {R : World → World → Prop}
theorem planT_sound (hrf : ∀ a, R a a) (htr : ∀ a b c, R a b → R b c → R a c) (hsel : Region.noSelect ops = true) (hQ : ∀ c a d v w, Q (.panic c) (Act.put a d v) w → Q (.panic c) a w) :
    ∀ (plan : PT) (listed : Array Bool) (a : Act) (w : World), closedL .any ops listed → planT .any ops plan listed = true → wpT P ops Q R plan a w → wpAnyM P .any ops Q R plan.len listed a w
  | .nil, listed, a, w, _, hb, h => ⟨by simpa [planT] using hb, h⟩
  | .take i rest, listed, a, w, hcl, hb, h => by
    simp only [planT, Bool.and_eq_true] at hb
    obtain ⟨⟨h1, h2⟩, h3⟩ := hb
    obtain ⟨o, v, hi, hy, hrest⟩ := h
    exact wpAnyM_first hrf htr hi (Region.noSelect_spec hsel) (fun c a w h => hQ c a _ v w h) rest.len listed a w (Region.free_spec hi h2) hcl (by simpa using h1) hy
      (planT_sound hrf htr hsel hQ rest _ _ w (closed_step hcl (by simpa using h1)) h3 hrest)
  | .eff i rest, listed, a, w, hcl, hb, h => by
    simp only [planT, Bool.and_eq_true, beq_iff_eq] at hb
    obtain ⟨h1, h3⟩ := hb
    refine ⟨fun h0 => (by rw [h1] at h0; cases h0), fun j hj => ?_⟩
    have hj0 := hj
    rw [h1] at hj
    obtain rfl : j = i := by simpa using hj
    exact wpOp_mono (fun a' w' h' => ⟨h'.1, planT_sound hrf htr hsel hQ rest _ a' w' (closed_step hcl hj0) h3 h'.2⟩) h
  | .two i k p q, listed, a, w, hcl, hb, h => by
    simp only [planT, Bool.and_eq_true, beq_iff_eq] at hb
    obtain ⟨⟨⟨h1, h2⟩, h3⟩, h4⟩ := hb
    refine ⟨fun h0 => (by rw [h1] at h0; cases h0), fun j hj => ?_⟩
    have hj0 := hj
    rw [h1] at hj
    simp only [List.mem_cons, List.not_mem_nil, or_false] at hj
    rcases hj with rfl | rfl
    · exact wpOp_mono (fun a' w' h' => ⟨h'.1, planT_sound hrf htr hsel hQ p _ a' w' (closed_step hcl hj0) h3 h'.2⟩) h.1
    · exact wpOp_mono (fun a' w' h' => ⟨h'.1, by rw [h2]; exact planT_sound hrf htr hsel hQ q _ a' w' (closed_step hcl hj0) h4 h'.2⟩) h.2
end
theorem region_planT {P : Program} {Q : Exit → Act → World → Prop} (plan : PT) (R : World → World → Prop) (hrf : ∀ a, R a a) (htr : ∀ a b c, R a b → R b c → R a c) {id : Nat} {l : List Oper} {a : Act} {w : World} (hm : P.follows .mixedOrders = true)
    (hb : (Region.noSelect l.toArray && (plan.len == l.length) && planT .any l.toArray plan (Array.replicate l.length false)) = true)
    (hQ : ∀ c a d v w, Q (.panic c) (Act.put a d v) w → Q (.panic c) a w) (h : wpT P l.toArray Q R plan a w.drew) : (Code.region id l.toArray true).wp P Q a w := by
  simp only [Bool.and_eq_true, beq_iff_eq] at hb
  obtain ⟨⟨h1, h2⟩, h3⟩ := hb
  refine wp_region_any hm ?_
  have := planT_sound hrf htr h1 hQ plan _ a _ (fun k o _ hl => by rcases Nat.lt_or_ge k l.length with h' | h' <;> simp [h'] at hl) h3 h
  rw [h2] at this
  have := wpAny_of_mono _ _ _ _ this
  simpa using this
section
variable {P : Program} {Q : Exit → Act → World → Prop} {R : World → World → Prop}
theorem tplan_take {l : List Oper} {i : Nat} {rest : PT} {a : Act} {w : World} {o : Oper} {v : Value} (hi : nthO l i = some o) (hw : Region.wanted o (yielded l.toArray a.tmps) = true)
    (hv : ∀ w', R w w' → (execOp a.eval o).run P w' = .ok (.value v) w') (h : wpT P l.toArray Q R rest (a.put o.dst v) w) : wpT P l.toArray Q R (.take i rest) a w :=
  ⟨o, v, (nthO_eq l i).trans hi, .inl ⟨hw, hv⟩, h⟩
theorem tplan_skip {l : List Oper} {i : Nat} {rest : PT} {a : Act} {w : World} {o : Oper} (hi : nthO l i = some o) (hw : Region.wanted o (yielded l.toArray a.tmps) = false)
    (h : wpT P l.toArray Q R rest (a.put o.dst undef) w) : wpT P l.toArray Q R (.take i rest) a w :=
  ⟨o, undef, (nthO_eq l i).trans hi, .inr ⟨hw, rfl⟩, h⟩
theorem tplan_skip_eff {l : List Oper} {i : Nat} {rest : PT} {a : Act} {w : World} {o : Oper} (hrf : ∀ a, R a a) (hi : nthO l i = some o) (hw : Region.wanted o (yielded l.toArray a.tmps) = false)
    (h : wpT P l.toArray Q R rest (a.put o.dst undef) w) : wpT P l.toArray Q R (.eff i rest) a w := by
  unfold wpT wpOp
  simp only [(nthO_eq l i).trans hi, hw]
  exact ⟨.inr (hrf w), h⟩
theorem tplan_eff {l : List Oper} {i : Nat} {rest : PT} {a : Act} {w : World} {o : Oper} (hi : nthO l i = some o) (hw : Region.wanted o (yielded l.toArray a.tmps) = true)
    (h : ∀ K : Act → World → Prop, (∀ a' w', R w w' → wpT P l.toArray Q R rest a' w' → K a' w') → o.wp P a w K Q) : wpT P l.toArray Q R (.eff i rest) a w := by
  unfold wpT wpOp
  simp only [(nthO_eq l i).trans hi, hw, if_true]
  exact .inl (h _ fun a' w' h1 h2 => ⟨.inr h1, h2⟩)
theorem tplan_last {l : List Oper} {i : Nat} {a : Act} {w : World} {o : Oper} (hal : aloneB .any l.toArray i = true) (hi : nthO l i = some o) (hw : Region.wanted o (yielded l.toArray a.tmps) = true)
    (h : ∀ K : Act → World → Prop, (∀ a' w', Q .normal a' w' → K a' w') → o.wp P a w K Q) : wpT P l.toArray Q R (.eff i .nil) a w := by
  unfold wpT wpOp
  simp only [(nthO_eq l i).trans hi, hw, if_true]
  exact .inl (h _ fun a' w' h1 => ⟨.inl hal, h1⟩)
theorem tplan_two {l : List Oper} {i j : Nat} {p q : PT} {a : Act} {w : World} (h1 : wpT P l.toArray Q R (.eff i p) a w) (h2 : wpT P l.toArray Q R (.eff j q) a w) : wpT P l.toArray Q R (.two i j p q) a w := ⟨h1, h2⟩
theorem tplan_nil {ops : Array Oper} {a : Act} {w : World} (h : Q .normal a w) : wpT P ops Q R .nil a w := h
end
end Go.Proofs.Ytamkngpkplflcaa
