/- disk.Arm walked; a disk with the set of its blocks, and its operations so. -/
import Derived.Test.YtamkngpkplflcaaDiskWrite
namespace Go.Proofs.Ytamkngpkplflcaa
open Go.RowKit

theorem boolsV_one (l : List Bool) : ∀ u ∈ boolsV l, u.oneCell' = true := by
  intro u hu
  obtain ⟨c, _, rfl⟩ := List.mem_map.1 hu
  rfl
def Dk.arm (d : Dk) (n : Int) (l : List Bool) : Dk := if d.off then d else { d with armed := decide (0 ≤ n), left := n, surv := l }
theorem DkAt.armed {w w' : World} {g h : Nat} {vw vs : Value} {q : List Value} {d : Dk} (a : DkAt w g h vw vs q d) (t : Later (fun x => x = g) w w') (z : ∀ j, w'.frozen? ⟨g, j, none⟩ = false) (armed : Bool) (left : Int) (hl : I64 left) (vs' : Value) (l : List Bool)
    (c0 : w'.cell? ⟨g, 0, none⟩ = w.cell? ⟨g, 0, none⟩) (c1 : w'.cell? ⟨g, 1, none⟩ = w.cell? ⟨g, 1, none⟩) (c2 : w'.cell? ⟨g, 2, none⟩ = w.cell? ⟨g, 2, none⟩) (c3 : w'.cell? ⟨g, 3, none⟩ = some (.bool armed))
    (c4 : w'.cell? ⟨g, 4, none⟩ = some (.int .i64 left)) (c5 : w'.cell? ⟨g, 5, none⟩ = some vs') (hv : w'.ownsRow 0 4 1 vs' l.length (boolsV l)) (hn : ∀ b, vs'.ownBlock = some b → b ≠ g ∧ b ≠ h ∧ vw.ownBlock ≠ some b) :
    DkAt w' g h vw vs' q { d with armed := armed, left := left, surv := l } := by
  refine ⟨Nat.lt_of_lt_of_le a.lt t.1, c0.trans a.c0, c1.trans a.c1, c2.trans a.c2, c3, c4, c5, z, own_later a.has t (fun b hb e => ?_), own_later a.ws t (fun b hb e => (a.d2 b hb).1 e), a.ql, fun i hi => ?_, hv, a.d1, a.d2, hn, ⟨a.ok.n1, a.ok.n2, a.ok.len, a.ok.wt, hl⟩⟩
  · cases hb; exact a.d1 e.symm
  · obtain ⟨v, h1, h2, b, c, rfl, hg, hh, hw⟩ := a.qb i hi
    exact ⟨_, h1, h2.later t (fun b' hb' e => by cases hb'; exact hg e), b, c, rfl, hg, hh, hw⟩

set_option maxRecDepth 100000 in
theorem darm_on (g h : Nat) (vw vs : Value) (q : List Value) (d : Dk) (n : Int) (hn : I64 n) (sv : Value) (l : List Bool) (hoff : d.off = false) (w : World) (a : DkAt w g h vw vs q d) (hs : Bools w sv l) (hll : l.length ≤ 140737488355328) :
    Calls Try.prog 23 #[.pointer (some ⟨g, 0, none⟩), .int .i64 n, sv] w fun e w' => e = .returned (.tuple #[]) ∧ Touch (fun x => x = g) w w' ∧ ∃ vs', DkAt w' g h vw vs' q (d.arm n l) ∧ ∀ b, vs'.ownBlock = some b → w.heap.size ≤ b := by
  have a' := hide a
  have c2 := a.c2
  have c3 := a.c3
  have c4 := a.c4
  have c5 := a.c5
  rw [hoff] at c2
  have t3 := a.thaw 3
  have t4 := a.thaw 4
  have t5 := a.thaw 5
  have hgl := a.lt
  have he := hide (show d.arm n l = { d with armed := decide (0 ≤ n), left := n, surv := l } by unfold Dk.arm; rw [hoff]; rfl)
  have hs' := hide hs
  have hn' := hide hn
  clear a hoff hs hn
  go_enter Try.func23, Try.ntmps23
  go_wp2_with ((at_builtin; refine list_app_any elem_bools rfl (.const (.slice none 0 0)) (.tmp 16) rfl w.heap.size (.slice none 0 0) 0 [] rfl (World.ownsRow_nil _ _ _ _) sv l.length (boolsV l) rfl hs'.out (boolsV_one l) (by simp only [maxLen]; omega) (by omega) (Nat.le_refl _) ?_))
  intro v w1 hv hg hat
  have hb : Below w.heap.size w w1 := (Below.refl _ _).grown hg (Nat.le_refl _) (by simp [Value.ownBlock])
  have a1 := hide (a'.out.below hb)
  have c3' := a1.out.c3
  have c4' := a1.out.c4
  have c5' := a1.out.c5
  have t3' := a1.out.thaw 3
  have t4' := a1.out.thaw 4
  have t5' := a1.out.thaw 5
  obtain ⟨A, c, rfl, _, _, _⟩ := Sl.own hv
  have hv' := hide hv
  have hb' := hide hb
  clear hv hg hat hb c2 c3 c4 c5 t3 t4 t5
  go_wp2_with fail
  go_end0
  have hT : Touch (fun x => x = g) w1 (((w1.setCell ⟨g, 3, none⟩ (.bool (decide (0 ≤ n)))).setCell ⟨g, 4, none⟩ (.int .i64 n)).setCell ⟨g, 5, none⟩ (.slice A l.length c)) := (((Touch.refl (fun x => x = g) w1).setCell (p := ⟨g, 3, none⟩) rfl _).setCell (p := ⟨g, 4, none⟩) rfl _).setCell (p := ⟨g, 5, none⟩) rfl _
  have hvl := hv'.out.lt
  refine ⟨rfl, (Touch.ofBelow hb'.out).trans hT, .slice A l.length c, ?_, fun b hb => (hvl b hb).1⟩
  rw [he.out]
  have z1 := hide (a1.out.c1)
  exact a1.out.armed hT.2 (fun j => by rw [World.frozen?_setCell, World.frozen?_setCell, World.frozen?_setCell]; exact a1.out.thaw j) _ n hn'.out _ l (by simp [go_sem]) (by simp [go_sem]) (by simp [go_sem]) (by simp [go_sem, c3']) (by simp [go_sem, c4']) (by simp [go_sem, c5'])
    (let o := own_later hv'.out hT.2 (fun b hb e => by have := (hvl b hb).1; have e' : b = g := e; omega); ⟨o.1, o.2.imp id fun ⟨g, cap, cur, e1, _, e3⟩ => ⟨g, cap, cur, e1, Nat.zero_le _, e3⟩⟩)
    (fun b hb => by
      have h1 := (hvl b hb).1
      have h2 := (a'.out.has.lt h rfl).2
      exact ⟨by omega, by omega, fun e => by have := (a'.out.ws.lt b e).2; omega⟩)

set_option maxRecDepth 100000 in
theorem darm_off (g h : Nat) (vw vs : Value) (q : List Value) (d : Dk) (n : Int) (sv : Value) (hoff : d.off = true) (w : World) (a : DkAt w g h vw vs q d) :
    Calls Try.prog 23 #[.pointer (some ⟨g, 0, none⟩), .int .i64 n, sv] w fun e w' => e = .returned (.tuple #[]) ∧ w' = w := by
  have c2 := a.c2
  rw [hoff] at c2
  clear a hoff
  go_enter Try.func23, Try.ntmps23
  go_wp2_with fail
  exact bodyPost_ret (v := .tuple #[]) (by simp [results, Try.results23, go_sem]) rfl ⟨rfl, rfl⟩

/-- a disk at g, all of whose blocks are in B -/
def Dsk (w : World) (g : Nat) (B : Nat → Prop) (d : Dk) : Prop := ∃ h vw vs q, DkAt w g h vw vs q d ∧ ∀ x, DkB g h vw vs q x → B x
theorem Dsk.ok {w : World} {g : Nat} {B : Nat → Prop} {d : Dk} (a : Dsk w g B d) : d.Ok := by obtain ⟨h, vw, vs, q, a, _⟩ := a; exact a.ok
theorem Dsk.lt {w : World} {g : Nat} {B : Nat → Prop} {d : Dk} (a : Dsk w g B d) : g < w.heap.size := by obtain ⟨h, vw, vs, q, a, _⟩ := a; exact a.lt
theorem Dsk.self {w : World} {g : Nat} {B : Nat → Prop} {d : Dk} (a : Dsk w g B d) : B g := by obtain ⟨h, vw, vs, q, a, hB⟩ := a; exact hB g (.inl rfl)
theorem Dsk.later {w w' : World} {F B : Nat → Prop} {g : Nat} {d : Dk} (a : Dsk w g B d) (t : Later F w w') (hF : ∀ x, B x → ¬ F x) : Dsk w' g B d := by
  obtain ⟨h, vw, vs, q, a, hB⟩ := a
  exact ⟨h, vw, vs, q, a.later t (fun x hx => hF x (hB x hx)), hB⟩
theorem Dsk.below {w w' : World} {B : Nat → Prop} {g : Nat} {d : Dk} (a : Dsk w g B d) (t : Below w.heap.size w w') : Dsk w' g B d := a.later (F := fun _ => False) (below_later t (Nat.le_refl _)) (fun _ _ h => h)
theorem Dsk.mono {w : World} {B C : Nat → Prop} {g : Nat} {d : Dk} (a : Dsk w g B d) (hC : ∀ x, B x → C x) : Dsk w g C d := by
  obtain ⟨h, vw, vs, q, a, hB⟩ := a
  exact ⟨h, vw, vs, q, a, fun x hx => hC x (hB x hx)⟩

theorem DkAt.blt {w : World} {g h : Nat} {vw vs : Value} {q : List Value} {d : Dk} (a : DkAt w g h vw vs q d) (x : Nat) (hx : DkB g h vw vs q x) : x < w.heap.size := by
  rcases hx with hx | hx | hx | hx | ⟨v, hv, hx⟩
  · subst hx; exact a.lt
  · subst hx; exact (a.has.lt x rfl).2
  · exact (a.ws.lt x hx).2
  · exact (a.sv.lt x hx).2
  · obtain ⟨i, hi, rfl⟩ := List.mem_iff_getElem.1 hv
    obtain ⟨v, h1, h2, b, c, rfl, _⟩ := a.qb i (by rw [← a.ql]; exact hi)
    rw [List.getElem?_eq_getElem hi] at h1
    injection h1 with h1
    rw [h1] at hx
    exact h2.lt (by intro e; have := (a.ok.wt _ (List.getElem_mem (show i < d.waits.length by rw [← a.ql]; exact hi))).2; rw [e] at this; simp at this) x hx
theorem Dsk.tight {w : World} {g : Nat} {B : Nat → Prop} {d : Dk} (a : Dsk w g B d) : Dsk w g (fun x => B x ∧ x < w.heap.size) d := by
  obtain ⟨h, vw, vs, q, a, hB⟩ := a
  exact ⟨h, vw, vs, q, a, fun x hx => ⟨hB x hx, a.blt x hx⟩⟩

section
variable {g : Nat} {B : Nat → Prop} {d : Dk} {w : World} (a : Dsk w g B d)
include a
theorem Dsk.size_ : Calls Try.prog 19 #[.pointer (some ⟨g, 0, none⟩)] w fun e w' => e = .returned (.int .i64 d.n) ∧ w' = w := by
  obtain ⟨h, vw, vs, q, a, hB⟩ := a; exact dsize_any g h vw vs q d w a
theorem Dsk.on_ : Calls Try.prog 20 #[.pointer (some ⟨g, 0, none⟩)] w fun e w' => e = .returned (.bool (!d.off)) ∧ w' = w := by
  obtain ⟨h, vw, vs, q, a, hB⟩ := a; exact don_any g h vw vs q d w a
theorem Dsk.image_ : Calls Try.prog 21 #[.pointer (some ⟨g, 0, none⟩)] w fun e w' => ∃ v, e = .returned v ∧ OwnB w' w.heap.size 5 v d.has ∧ Below w.heap.size w w' := by
  obtain ⟨h, vw, vs, q, a, hB⟩ := a; exact dimage_any g h vw vs q d w a
theorem Dsk.read_ (at_ : Int) : Calls Try.prog 29 #[.pointer (some ⟨g, 0, none⟩), .int .i64 at_] w fun e w' => ∃ v, e = .returned (.tuple #[v, .int .i64 (d.reads at_).2]) ∧ OwnB w' w.heap.size 5 v (d.reads at_).1 ∧ Below w.heap.size w w' := by
  obtain ⟨h, vw, vs, q, a, hB⟩ := a; exact dread_any g h vw vs q d at_ w a
theorem Dsk.has_ (at_ : Nat) (hat : at_ < d.n) : Calls Try.prog 18 #[.pointer (some ⟨g, 0, none⟩), .int .i64 at_] w fun e w' => ∃ v, e = .returned (.tuple #[v, .int .i64 0]) ∧ OwnB w' w.heap.size 5 v (d.sector at_) ∧ Below w.heap.size w w' := by
  obtain ⟨h, vw, vs, q, a, hB⟩ := a; exact dhas_ok g h vw vs q d at_ hat w a
theorem Dsk.hasNot_ (at_ : Int) (hat : ¬ (0 ≤ at_ ∧ at_ < d.n)) : Calls Try.prog 18 #[.pointer (some ⟨g, 0, none⟩), .int .i64 at_] w fun e w' => e = .returned (.tuple #[.slice none 0 0, .int .i64 4]) ∧ w' = w := by
  obtain ⟨h, vw, vs, q, a, hB⟩ := a; exact dhas_bad g h vw vs q d at_ hat w a
theorem Dsk.power_ : Calls Try.prog 45 #[.pointer (some ⟨g, 0, none⟩)] w fun e w' => e = .returned (.tuple #[]) ∧ Dsk w' g B d.power ∧ Touch B w w' := by
  obtain ⟨h, vw, vs, q, a, hB⟩ := a
  refine (dpower_any g h vw vs q d w a).mono ?_
  rintro e w' ⟨rfl, h1, h2⟩
  refine ⟨rfl, ⟨h, _, vs, [], h1, fun x hx => ?_⟩, h2.mono (fun x _ hx => hB x (.inl hx))⟩
  rcases hx with hx | hx | hx | hx | ⟨v, hv, _⟩
  · exact hB x (.inl hx)
  · exact hB x (.inr (.inl hx))
  · cases hx
  · exact hB x (.inr (.inr (.inr (.inl hx))))
  · cases hv
theorem Dsk.crash_ (sv : Value) (l : List Bool) (hs : Bools w sv l) (hsh : l ≠ [] → ∀ b, sv.ownBlock = some b → ¬ B b) :
    Calls Try.prog 24 #[.pointer (some ⟨g, 0, none⟩), sv] w fun e w' => e = .returned (.tuple #[]) ∧ Dsk w' g B (d.crash l) ∧ Touch B w w' := by
  obtain ⟨h, vw, vs, q, a, hB⟩ := a
  refine (dcrash_any g h vw vs q d sv l w a hs (fun hl b hb e => hsh hl b hb (e ▸ hB h (.inr (.inl rfl))))).mono ?_
  rintro e w' ⟨rfl, h1, vw', q', h2, h3⟩
  exact ⟨rfl, ⟨h, vw', vs, q', h2, fun x hx => hB x (h3 x hx)⟩, h1.mono (fun x _ hx => by rcases hx with hx | hx; exact hB x (.inl hx); exact hB x (.inr (.inl hx)))⟩
theorem Dsk.flush_ : Calls Try.prog 25 #[.pointer (some ⟨g, 0, none⟩)] w fun e w' => e = .returned (.int .i64 d.flush.2) ∧ Dsk w' g B d.flush.1 ∧ Touch B w w' := by
  obtain ⟨h, vw, vs, q, a, hB⟩ := a
  refine (dflush_any g h vw vs q d w a).mono ?_
  rintro e w' ⟨rfl, h1, vw', q', h2, h3⟩
  exact ⟨rfl, ⟨h, vw', vs, q', h2, fun x hx => hB x (h3 x hx)⟩, h1.mono (fun x _ hx => by rcases hx with hx | hx; exact hB x (.inl hx); exact hB x (.inr (.inl hx)))⟩
theorem Dsk.write_ (at_ : Int) (bv : Value) (b : List UInt8) (hbv : ∀ x, bv.ownBlock = some x → ¬ B x) (hbs : Bs w bv b) (hwl : d.waits.length ≤ 1000000) :
    Calls Try.prog 26 #[.pointer (some ⟨g, 0, none⟩), .int .i64 at_, bv] w fun e w' => e = .returned (.int .i64 (d.write at_ b).2) ∧ Dsk w' g (fun x => B x ∨ (w.heap.size ≤ x ∧ x < w'.heap.size)) (d.write at_ b).1 ∧ Touch B w w' := by
  obtain ⟨h, vw, vs, q, a, hB⟩ := a
  refine (dwrite_any g h vw vs q d at_ bv b (fun x hx => ⟨fun e => hbv x hx (hB x (.inl e)), fun e => hbv x hx (hB x (.inr (.inl e)))⟩) w a hbs hwl).mono ?_
  rintro e w' ⟨rfl, h1, vw', q', h2, h3⟩
  exact ⟨rfl, ⟨h, vw', vs, q', h2, fun x hx => (h3 x hx).imp (hB x) (fun e => ⟨e, h2.blt x hx⟩)⟩, h1.mono (fun x _ hx => hB x hx)⟩
theorem Dsk.arm_ (n : Int) (hn : I64 n) (sv : Value) (l : List Bool) (hs : Bools w sv l) (hll : l.length ≤ 140737488355328) :
    Calls Try.prog 23 #[.pointer (some ⟨g, 0, none⟩), .int .i64 n, sv] w fun e w' => e = .returned (.tuple #[]) ∧ Dsk w' g (fun x => B x ∨ (w.heap.size ≤ x ∧ x < w'.heap.size)) (d.arm n l) ∧ Touch B w w' := by
  obtain ⟨h, vw, vs, q, a, hB⟩ := a
  by_cases ho : d.off = true
  · refine (darm_off g h vw vs q d n sv ho w a).mono ?_
    rintro e w' ⟨rfl, rfl⟩
    exact ⟨rfl, ⟨h, vw, vs, q, by unfold Dk.arm; rw [if_pos ho]; exact a, fun x hx => .inl (hB x hx)⟩, Touch.refl _ _⟩
  · refine (darm_on g h vw vs q d n hn sv l (by simpa using ho) w a hs hll).mono ?_
    rintro e w' ⟨rfl, h1, vs', h2, h3⟩
    refine ⟨rfl, ⟨h, vw, vs', q, h2, fun x hx => ?_⟩, h1.mono (fun x _ hx => hB x (.inl hx))⟩
    rcases hx with hx | hx | hx | hx | hx
    · exact .inl (hB x (.inl hx))
    · exact .inl (hB x (.inr (.inl hx)))
    · exact .inl (hB x (.inr (.inr (.inl hx))))
    · exact .inr ⟨h3 x hx, h2.blt x (.inr (.inr (.inr (.inl hx))))⟩
    · exact .inl (hB x (.inr (.inr (.inr (.inr hx)))))
end
/-- a new disk -/
theorem dnew_dsk (n : Nat) (h1 : 1 ≤ n) (h2 : n ≤ 256) (w : World) :
    Calls Try.prog 16 #[.int .i64 n] w fun e w' => ∃ g, e = .returned (.tuple #[.pointer (some ⟨g, 0, none⟩), .int .i64 0]) ∧ w.heap.size ≤ g ∧ Dsk w' g (fun x => w.heap.size ≤ x ∧ x < w'.heap.size) (newDk n) ∧ Below w.heap.size w w' := by
  refine (dnew_ok n h1 h2 w).mono ?_
  rintro e w' ⟨g, h, rfl, hg, hh, a, hb⟩
  refine ⟨g, rfl, hg, ⟨h, _, _, _, a, fun x hx => ?_⟩, hb⟩
  rcases hx with hx | hx | hx | hx | ⟨v, hv, _⟩
  · subst hx; exact ⟨hg, a.lt⟩
  · subst hx; exact ⟨hh, (a.has.lt x rfl).2⟩
  · cases hx
  · cases hx
  · cases hv
end Go.Proofs.Ytamkngpkplflcaa
