/- A disk and the document's disk beside it. -/
import Derived.Test.YtamkngpkplflcaaRefDisk9
import Derived.Test.YtamkngpkplflcaaDiskLoad
import Derived.Test.YtamkngpkplflcaaDiskActs
namespace Go.Proofs.Ytamkngpkplflcaa
open Go.RowKit

/-- a disk at g whose blocks begin at base, and beside it the document's disk r, read off u; neither has a block from lo to hi -/
def Pair (base : Nat) (X : Nat → Prop) (lo hi : Nat) (w : World) (g : Nat) (d : Dk) (u : Value) (r : Rk) : Prop :=
  ∃ B C, Dsk w g B d ∧ RkAt w C u r ∧ (∀ y, B y → base ≤ y ∧ y < w.heap.size ∧ ¬ (lo ≤ y ∧ y < hi)) ∧ (∀ y, C y → y < w.heap.size ∧ ¬ B y ∧ ¬ (lo ≤ y ∧ y < hi)) ∧ ∀ y, X y → base ≤ y ∧ y < w.heap.size ∧ ¬ B y ∧ ¬ C y
theorem Pair.below {base : Nat} {X : Nat → Prop} {lo hi : Nat} {w w' : World} {g : Nat} {d : Dk} {u : Value} {r : Rk} (p : Pair base X lo hi w g d u r) (hb : Below w.heap.size w w') : Pair base X lo hi w' g d u r := by
  obtain ⟨B, C, h1, h2, h3, h4, h5⟩ := p
  have := hb.size
  exact ⟨B, C, h1.below hb, h2.below hb, fun y hy => ⟨(h3 y hy).1, by have := (h3 y hy).2.1; omega, (h3 y hy).2.2⟩, fun y hy => ⟨by have := (h4 y hy).1; omega, (h4 y hy).2⟩, fun y hy => ⟨(h5 y hy).1, by have := (h5 y hy).2.1; omega, (h5 y hy).2.2⟩⟩
theorem Pair.wide {base : Nat} {X : Nat → Prop} {lo hi lo' hi' : Nat} {w : World} {g : Nat} {d : Dk} {u : Value} {r : Rk} (p : Pair base X lo hi w g d u r) (h : ∀ y, y < w.heap.size → (lo' ≤ y ∧ y < hi') → (lo ≤ y ∧ y < hi)) : Pair base X lo' hi' w g d u r := by
  obtain ⟨B, C, h1, h2, h3, h4, h5⟩ := p
  exact ⟨B, C, h1, h2, fun y hy => ⟨(h3 y hy).1, (h3 y hy).2.1, fun e => (h3 y hy).2.2 (h y (h3 y hy).2.1 e)⟩, fun y hy => ⟨(h4 y hy).1, (h4 y hy).2.1, fun e => (h4 y hy).2.2 (h y (h4 y hy).1 e)⟩, h5⟩
/-- new memory, which neither has -/
theorem Pair.fresh {base : Nat} {X : Nat → Prop} {lo hi : Nat} {w w' : World} {g : Nat} {d : Dk} {u : Value} {r : Rk} (p : Pair base X lo hi w g d u r) (hb : Below w.heap.size w w') (hh : hi = w.heap.size) : Pair base X lo w'.heap.size w' g d u r := by
  have p' : Pair base X lo w'.heap.size w g d u r := p.wide (fun y hy e => ⟨e.1, by omega⟩)
  exact p'.below hb
/-- stores beside both -/
theorem Pair.touch {base : Nat} {X : Nat → Prop} {lo hi : Nat} {w w' : World} {g : Nat} {d : Dk} {u : Value} {r : Rk} (p : Pair base X lo hi w g d u r) {F : Nat → Prop} (ht : Touch F w w') (hF : ∀ y, F y → lo ≤ y ∧ y < hi) : Pair base X lo hi w' g d u r := by
  obtain ⟨B, C, h1, h2, h3, h4, h5⟩ := p
  have := ht.size
  exact ⟨B, C, h1.later ht.2 (fun y hy e => (h3 y hy).2.2 (hF y e)), h2.later ht.2 (fun y hy e => (h4 y hy).2.2 (hF y e)), fun y hy => ⟨(h3 y hy).1, by have := (h3 y hy).2.1; omega, (h3 y hy).2.2⟩, fun y hy => ⟨by have := (h4 y hy).1; omega, (h4 y hy).2⟩, fun y hy => ⟨(h5 y hy).1, by have := (h5 y hy).2.1; omega, (h5 y hy).2.2⟩⟩
/-- what lies below base, and the blocks X, are as they were -/
structure Bel (base : Nat) (X : Nat → Prop) (w w' : World) : Prop where
  b : Below base w w'
  x : ∀ y, X y → y < w.heap.size → w'.heap[y]? = w.heap[y]?
theorem Bel.size {base : Nat} {X : Nat → Prop} {w w' : World} (h : Bel base X w w') : w.heap.size ≤ w'.heap.size := h.b.size
theorem Bel.refl (base : Nat) (X : Nat → Prop) (w : World) : Bel base X w w := ⟨Below.refl _ _, fun _ _ _ => rfl⟩
theorem Bel.trans {base : Nat} {X : Nat → Prop} {a b c : World} (h : Bel base X a b) (k : Bel base X b c) : Bel base X a c := ⟨h.b.trans k.b, fun y hy hl => (k.x y hy (Nat.lt_of_lt_of_le hl h.size)).trans (h.x y hy hl)⟩
theorem Bel.of {base : Nat} {X : Nat → Prop} {w w' : World} (h : Below w.heap.size w w') (hb : base ≤ w.heap.size) : Bel base X w w' := ⟨h.mono hb, fun y _ hl => h.block y hl⟩
theorem Bel.touch {base : Nat} {X F : Nat → Prop} {w w' : World} (h : Touch F w w') (hb : base ≤ w.heap.size) (hF : ∀ k, k < base → ¬ F k) (hX : ∀ y, F y → ¬ X y) : Bel base X w w' := ⟨h.below hb hF, fun y hy hl => h.2.2 y hl (fun e => hX y e hy)⟩
/-- the blocks from lo to hi are as they were -/
def Keeps (lo hi : Nat) (w w' : World) : Prop := Later (fun y => ¬ (lo ≤ y ∧ y < hi)) w w'
theorem pair_d {base : Nat} {X : Nat → Prop} {lo hi : Nat} {w w' : World} {g : Nat} {d' : Dk} {u : Value} {r : Rk} {B C : Nat → Prop} (h2 : RkAt w C u r) (h3 : ∀ y, B y → base ≤ y ∧ y < w.heap.size ∧ ¬ (lo ≤ y ∧ y < hi)) (h4 : ∀ y, C y → y < w.heap.size ∧ ¬ B y ∧ ¬ (lo ≤ y ∧ y < hi)) (h5 : ∀ y, X y → base ≤ y ∧ y < w.heap.size ∧ ¬ B y ∧ ¬ C y)
    (hbase : base ≤ w.heap.size) (hh : hi ≤ w.heap.size) (hD : Dsk w' g (fun x => B x ∨ (w.heap.size ≤ x ∧ x < w'.heap.size)) d') (hT : Touch B w w') : Pair base X lo hi w' g d' u r ∧ Bel base X w w' ∧ Keeps lo hi w w' := by
  have := hT.size
  refine ⟨⟨_, C, hD, h2.later hT.2 (fun y hy e => (h4 y hy).2.1 e), fun y hy => ?_, fun y hy => ⟨by have := (h4 y hy).1; omega, fun e => ?_, (h4 y hy).2.2⟩, fun y hy => ⟨(h5 y hy).1, by have := (h5 y hy).2.1; omega, fun e => ?_, (h5 y hy).2.2.2⟩⟩, Bel.touch hT hbase (fun k hk e => by have := (h3 k e).1; omega) (fun y e hx => (h5 y hx).2.2.1 e), hT.2.1, fun k hk hf => hT.2.2 k hk (fun e => hf (h3 k e).2.2)⟩
  · rcases hy with hy | hy
    · have := h3 y hy; exact ⟨this.1, by omega, this.2.2⟩
    · exact ⟨by omega, hy.2, by omega⟩
  · rcases e with e | e
    · exact (h4 y hy).2.1 e
    · have := (h4 y hy).1; omega
  · rcases e with e | e
    · exact (h5 y hy).2.2.1 e
    · have := (h5 y hy).2.1; omega
theorem pair_r {base : Nat} {X : Nat → Prop} {lo hi : Nat} {w w' : World} {g : Nat} {d : Dk} {u' : Value} {r' : Rk} {B C : Nat → Prop} (h1 : Dsk w g B d) (h3 : ∀ y, B y → base ≤ y ∧ y < w.heap.size ∧ ¬ (lo ≤ y ∧ y < hi)) (h4 : ∀ y, C y → y < w.heap.size ∧ ¬ B y ∧ ¬ (lo ≤ y ∧ y < hi)) (h5 : ∀ y, X y → base ≤ y ∧ y < w.heap.size ∧ ¬ B y ∧ ¬ C y)
    (hh : hi ≤ w.heap.size) (hR : RkAt w' (fun x => C x ∨ w.heap.size ≤ x) u' r') (hb : Below w.heap.size w w') : Pair base X lo hi w' g d u' r' := by
  have := hb.size
  refine ⟨B, _, h1.below hb, hR.tight, fun y hy => ⟨(h3 y hy).1, by have := (h3 y hy).2.1; omega, (h3 y hy).2.2⟩, fun y hy => ⟨hy.2, fun e => ?_, ?_⟩, fun y hy => ⟨(h5 y hy).1, by have := (h5 y hy).2.1; omega, (h5 y hy).2.2.1, fun e => ?_⟩⟩
  · rcases hy.1 with h | h
    · exact (h4 y h).2.1 e
    · have := (h3 y e).2.1; omega
  · rcases hy.1 with h | h
    · exact (h4 y h).2.2
    · omega
  · rcases e.1 with h | h
    · exact (h5 y hy).2.2.2 h
    · have := (h5 y hy).2.1; omega

section
variable {base : Nat} {X : Nat → Prop} {lo hi : Nat} {w : World} {g : Nat} {d : Dk} {u : Value} {r : Rk} (p : Pair base X lo hi w g d u r) (hbase : base ≤ w.heap.size) (hh : hi ≤ w.heap.size)
include p
theorem Pair.dok : d.Ok := by obtain ⟨B, C, h1, _⟩ := p; exact h1.ok
theorem Pair.dread (at_ : Int) : Calls Try.prog 29 #[.pointer (some ⟨g, 0, none⟩), .int .i64 at_] w fun e w' => ∃ v, e = .returned (.tuple #[v, .int .i64 (d.reads at_).2]) ∧ OwnB w' w.heap.size 5 v (d.reads at_).1 ∧ Below w.heap.size w w' := by
  obtain ⟨B, C, h1, _⟩ := p; exact h1.read_ at_
theorem Pair.dimage : Calls Try.prog 21 #[.pointer (some ⟨g, 0, none⟩)] w fun e w' => ∃ v, e = .returned v ∧ OwnB w' w.heap.size 5 v d.has ∧ Below w.heap.size w w' := by
  obtain ⟨B, C, h1, _⟩ := p; exact h1.image_
theorem Pair.dhas (at_ : Nat) (hat : at_ < d.n) : Calls Try.prog 18 #[.pointer (some ⟨g, 0, none⟩), .int .i64 at_] w fun e w' => ∃ v, e = .returned (.tuple #[v, .int .i64 0]) ∧ OwnB w' w.heap.size 5 v (d.sector at_) ∧ Below w.heap.size w w' := by
  obtain ⟨B, C, h1, _⟩ := p; exact h1.has_ at_ hat
theorem Pair.dhasNot (at_ : Int) (hat : ¬ (0 ≤ at_ ∧ at_ < d.n)) : Calls Try.prog 18 #[.pointer (some ⟨g, 0, none⟩), .int .i64 at_] w fun e w' => e = .returned (.tuple #[.slice none 0 0, .int .i64 4]) ∧ w' = w := by
  obtain ⟨B, C, h1, _⟩ := p; exact h1.hasNot_ at_ hat
theorem Pair.rread (at_ : Int) (ok : r.Ok) : Calls Try.prog 39 #[u, .int .i64 at_] w fun e w' => e = .returned (.tuple #[.string ⟨(r.read at_).1.toArray⟩, .int .i64 (r.read at_).2]) ∧ Below w.heap.size w w' := by
  obtain ⟨B, C, _, h2, _⟩ := p; exact rread_any C u r at_ w h2 ok
theorem Pair.rimage (ok : r.Ok) (hl : ∀ b ∈ r.has, b.length = 64) : Calls Try.prog 42 #[u] w fun e w' => e = .returned (.string ⟨r.has.flatten.toArray⟩) ∧ Below w.heap.size w w' := by
  obtain ⟨B, C, _, h2, _⟩ := p; exact rimage_any C u r w h2 ok hl
include hh
theorem Pair.rwrite (a : Int) (b : List UInt8) (ok : r.Ok) (hI : I64 r.left) (hwl : r.waits.length < 1000000) :
    Calls Try.prog 38 #[u, .int .i64 a, .string ⟨b.toArray⟩] w fun e w' => ∃ u', e = .returned (.tuple #[u', .int .i64 (r.write a b).2]) ∧ Pair base X lo hi w' g d u' (r.write a b).1 ∧ Below w.heap.size w w' := by
  obtain ⟨B, C, h1, h2, h3, h4, h5⟩ := p
  refine (rwrite_any C u r a b w h2 ok hI hwl).mono ?_
  rintro e w' ⟨u', rfl, hR, hb⟩
  exact ⟨u', rfl, pair_r h1 h3 h4 h5 hh hR hb, hb⟩
theorem Pair.rflush (ok : r.Ok) (hI : I64 r.left) :
    Calls Try.prog 40 #[u] w fun e w' => ∃ u', e = .returned (.tuple #[u', .int .i64 r.flush.2]) ∧ Pair base X lo hi w' g d u' r.flush.1 ∧ Below w.heap.size w w' := by
  obtain ⟨B, C, h1, h2, h3, h4, h5⟩ := p
  refine (rflush_any C u r w h2 ok hI).mono ?_
  rintro e w' ⟨u', rfl, hR, hb⟩
  exact ⟨u', rfl, pair_r h1 h3 h4 h5 hh hR hb, hb⟩
theorem Pair.rcrash (sv : Value) (l : List Bool) (hs : Bools w sv l) (ok : r.Ok) :
    Calls Try.prog 44 #[u, sv] w fun e w' => ∃ u', e = .returned u' ∧ Pair base X lo hi w' g d u' (r.crash l) ∧ Below w.heap.size w w' := by
  obtain ⟨B, C, h1, h2, h3, h4, h5⟩ := p
  refine (rcrash_any C u r sv l w h2 hs ok).mono ?_
  rintro e w' ⟨u', rfl, hR, hb⟩
  exact ⟨u', rfl, pair_r h1 h3 h4 h5 hh hR hb, hb⟩
theorem Pair.rpower :
    Calls Try.prog 46 #[u] w fun e w' => ∃ u', e = .returned u' ∧ Pair base X lo hi w' g d u' r.power ∧ Below w.heap.size w w' := by
  obtain ⟨B, C, h1, h2, h3, h4, h5⟩ := p
  refine (rpower_any C u r w h2).mono ?_
  rintro e w' ⟨u', rfl, hR, hb⟩
  exact ⟨u', rfl, pair_r h1 h3 h4 h5 hh hR hb, hb⟩
theorem Pair.rload (b : List UInt8) (ok : r.Ok) :
    Calls Try.prog 57 #[u, .string ⟨b.toArray⟩] w fun e w' => ∃ u', e = .returned (.tuple #[u', .int .i64 (r.load b).2]) ∧ Pair base X lo hi w' g d u' (r.load b).1 ∧ Below w.heap.size w w' := by
  obtain ⟨B, C, h1, h2, h3, h4, h5⟩ := p
  refine (rload_any C u r b w h2 ok).mono ?_
  rintro e w' ⟨u', rfl, hR, hb⟩
  exact ⟨u', rfl, pair_r h1 h3 h4 h5 hh hR hb, hb⟩
theorem Pair.rarm (n : Int) (sv : Value) (l : List Bool) (hs : BoolsB w base sv l) (hlo : base ≤ lo) (hbase : base ≤ w.heap.size) :
    Calls Try.prog 56 #[u, .int .i64 n, sv] w fun e w' => ∃ u', e = .returned u' ∧ Pair base X lo hi w' g d u' (r.arm n l) ∧ Below w.heap.size w w' := by
  obtain ⟨B, C, h1, h2, h3, h4, h5⟩ := p
  have h4' : ∀ y, (C y ∨ (l ≠ [] ∧ sv.ownBlock = some y)) → y < w.heap.size ∧ ¬ B y ∧ ¬ (lo ≤ y ∧ y < hi) := by
    intro y hy
    rcases hy with hy | hy
    · exact h4 y hy
    · have := hs.2 hy.1 y hy.2
      exact ⟨by omega, fun e => by have := (h3 y e).1; omega, by omega⟩
  have h5' : ∀ y, X y → base ≤ y ∧ y < w.heap.size ∧ ¬ B y ∧ ¬ (C y ∨ (l ≠ [] ∧ sv.ownBlock = some y)) := fun y hy => ⟨(h5 y hy).1, (h5 y hy).2.1, (h5 y hy).2.2.1, fun e => by
    rcases e with e | e
    · exact (h5 y hy).2.2.2 e
    · have := hs.2 e.1 y e.2; have := (h5 y hy).1; omega⟩
  have h2' := h2.mono (C := fun y => C y ∨ (l ≠ [] ∧ sv.ownBlock = some y)) (fun y hy => .inl hy)
  by_cases ho : r.off = true
  · refine (rarm_off _ u r n sv w h2' ho).mono ?_
    rintro e w' ⟨u', rfl, hR, hb⟩
    refine ⟨u', rfl, ?_, hb⟩
    unfold Rk.arm
    rw [if_pos ho]
    exact pair_r h1 h3 h4' h5' hh hR hb
  · refine (rarm_on _ u r n sv l w h2' (by simpa using ho) hs.1 (fun hn y hy => .inr ⟨by intro e; rw [e] at hn; simp at hn, hy⟩)).mono ?_
    rintro e w' ⟨u', rfl, hR, hb⟩
    refine ⟨u', rfl, ?_, hb⟩
    unfold Rk.arm
    rw [if_neg ho]
    exact pair_r h1 h3 h4' h5' hh hR hb
include hbase
theorem Pair.dwrite (at_ : Int) (bv : Value) (b : List UInt8) (hbv : ∀ x, bv.ownBlock = some x → lo ≤ x ∧ x < hi) (hbs : Bs w bv b) (hwl : d.waits.length ≤ 1000000) :
    Calls Try.prog 26 #[.pointer (some ⟨g, 0, none⟩), .int .i64 at_, bv] w fun e w' => e = .returned (.int .i64 (d.write at_ b).2) ∧ Pair base X lo hi w' g (d.write at_ b).1 u r ∧ Bel base X w w' ∧ Keeps lo hi w w' := by
  obtain ⟨B, C, h1, h2, h3, h4, h5⟩ := p
  refine (h1.write_ at_ bv b (fun x hx e => (h3 x e).2.2 (hbv x hx)) hbs hwl).mono ?_
  rintro e w' ⟨rfl, hD, hT⟩
  obtain ⟨k1, k2, k3⟩ := pair_d h2 h3 h4 h5 hbase hh hD hT
  exact ⟨rfl, k1, k2, k3⟩
theorem Pair.dflush : Calls Try.prog 25 #[.pointer (some ⟨g, 0, none⟩)] w fun e w' => e = .returned (.int .i64 d.flush.2) ∧ Pair base X lo hi w' g d.flush.1 u r ∧ Bel base X w w' ∧ Keeps lo hi w w' := by
  obtain ⟨B, C, h1, h2, h3, h4, h5⟩ := p
  refine h1.flush_.mono ?_
  rintro e w' ⟨rfl, hD, hT⟩
  obtain ⟨k1, k2, k3⟩ := pair_d h2 h3 h4 h5 hbase hh (hD.mono fun _ hx => .inl hx) hT
  exact ⟨rfl, k1, k2, k3⟩
theorem Pair.dcrash (sv : Value) (l : List Bool) (hs : BoolsB w base sv l) :
    Calls Try.prog 24 #[.pointer (some ⟨g, 0, none⟩), sv] w fun e w' => e = .returned (.tuple #[]) ∧ Pair base X lo hi w' g (d.crash l) u r ∧ Bel base X w w' ∧ Keeps lo hi w w' := by
  obtain ⟨B, C, h1, h2, h3, h4, h5⟩ := p
  refine (h1.crash_ sv l hs.1 (fun hl b hb e => by have := hs.2 hl b hb; have := (h3 b e).1; omega)).mono ?_
  rintro e w' ⟨rfl, hD, hT⟩
  obtain ⟨k1, k2, k3⟩ := pair_d h2 h3 h4 h5 hbase hh (hD.mono fun _ hx => .inl hx) hT
  exact ⟨rfl, k1, k2, k3⟩
theorem Pair.dpower : Calls Try.prog 45 #[.pointer (some ⟨g, 0, none⟩)] w fun e w' => e = .returned (.tuple #[]) ∧ Pair base X lo hi w' g d.power u r ∧ Bel base X w w' ∧ Keeps lo hi w w' := by
  obtain ⟨B, C, h1, h2, h3, h4, h5⟩ := p
  refine h1.power_.mono ?_
  rintro e w' ⟨rfl, hD, hT⟩
  obtain ⟨k1, k2, k3⟩ := pair_d h2 h3 h4 h5 hbase hh (hD.mono fun _ hx => .inl hx) hT
  exact ⟨rfl, k1, k2, k3⟩
theorem Pair.darm (n : Int) (hn : I64 n) (sv : Value) (l : List Bool) (hs : Bools w sv l) (hll : l.length ≤ 140737488355328) :
    Calls Try.prog 23 #[.pointer (some ⟨g, 0, none⟩), .int .i64 n, sv] w fun e w' => e = .returned (.tuple #[]) ∧ Pair base X lo hi w' g (d.arm n l) u r ∧ Bel base X w w' ∧ Keeps lo hi w w' := by
  obtain ⟨B, C, h1, h2, h3, h4, h5⟩ := p
  refine (h1.arm_ n hn sv l hs hll).mono ?_
  rintro e w' ⟨rfl, hD, hT⟩
  obtain ⟨k1, k2, k3⟩ := pair_d h2 h3 h4 h5 hbase hh hD hT
  exact ⟨rfl, k1, k2, k3⟩
theorem Pair.dload (bv : Value) (b : List UInt8) (hbs : Bs w bv b) :
    Calls Try.prog 58 #[.pointer (some ⟨g, 0, none⟩), bv] w fun e w' => e = .returned (.int .i64 (d.load b).2) ∧ Pair base X lo hi w' g (d.load b).1 u r ∧ Bel base X w w' ∧ Keeps lo hi w w' := by
  obtain ⟨B, C, h1, h2, h3, h4, h5⟩ := p
  refine (h1.load_ bv b hbs).mono ?_
  rintro e w' ⟨rfl, hD, hT⟩
  obtain ⟨k1, k2, k3⟩ := pair_d h2 h3 h4 h5 hbase hh (hD.mono fun _ hx => .inl hx) hT
  exact ⟨rfl, k1, k2, k3⟩
end
end Go.Proofs.Ytamkngpkplflcaa
