/- A part of a disk, and the document's disk beside it. -/
import Derived.Test.YtamkngpkplflcaaSim
import Derived.Test.YtamkngpkplflcaaExtNest
namespace Go.Proofs.Ytamkngpkplflcaa
open Go.RowKit

theorem pair_dB {base : Nat} {X : Nat → Prop} {lo hi : Nat} {w w' : World} {g : Nat} {d' : Dk} {u : Value} {r : Rk} {B C : Nat → Prop} (h2 : RkAt w C u r) (h3 : ∀ y, B y → base ≤ y ∧ y < w.heap.size ∧ ¬ (lo ≤ y ∧ y < hi)) (h4 : ∀ y, C y → y < w.heap.size ∧ ¬ B y ∧ ¬ (lo ≤ y ∧ y < hi)) (h5 : ∀ y, X y → base ≤ y ∧ y < w.heap.size ∧ ¬ B y ∧ ¬ C y)
    (hbase : base ≤ w.heap.size) (hh : hi ≤ w.heap.size) (hD : Dsk w' g B d') (hT : Touch B w w') : Pair base X lo hi w' g d' u r ∧ Bel base X w w' ∧ Keeps lo hi w w' := pair_d h2 h3 h4 h5 hbase hh (hD.mono fun _ hx => .inl hx) hT
theorem placeV_err (f c i : Int) (h : (placeV f c i).2 ≠ 0) : (placeV f c i).2 = 4 := by
  unfold placeV at *
  split
  · rfl
  · rename_i h2; rw [if_neg h2] at h; exact absurd rfl h
theorem placeV_I64 (f c i : Int) (hf : I64 f) (hi : I64 i) : I64 (placeV f c i).1 := by
  unfold placeV I64 at *
  split
  · simp
  · simp only; omega
section
variable {base : Nat} {X : Nat → Prop} {lo hi : Nat} {w : World} {g : Nat} {d : Dk} {u : Value} {r : Rk} (p : Pair base X lo hi w g d u r) {q : Nat} {f c : Int} (h : PtAt w q f c g)
include p h
theorem Pair.eread (at_ : Int) (hat : I64 at_) : Calls Try.prog 33 #[.pointer (some ⟨q, 0, none⟩), .int .i64 at_] w fun e w' => ∃ v, e = .returned (.tuple #[v, .int .i64 (pread d f c at_).2]) ∧ OwnB w' w.heap.size 5 v (pread d f c at_).1 ∧ Below w.heap.size w w' := by
  obtain ⟨B, C, h1, _⟩ := p; exact eread_any h B d h1 at_ hat
theorem Pair.ewrite (hbase : base ≤ w.heap.size) (hh : hi ≤ w.heap.size) (at_ : Int) (hat : I64 at_) (bv : Value) (b : List UInt8) (hbv : ∀ x, bv.ownBlock = some x → lo ≤ x ∧ x < hi) (hbs : Bs w bv b) (hwl : d.waits.length ≤ 1000000) :
    Calls Try.prog 32 #[.pointer (some ⟨q, 0, none⟩), .int .i64 at_, bv] w fun e w' => e = .returned (.int .i64 (pwrite d f c at_ b).2) ∧ Pair base X lo hi w' g (pwrite d f c at_ b).1 u r ∧ Bel base X w w' ∧ Keeps lo hi w w' := by
  obtain ⟨B, C, h1, h2, h3, h4, h5⟩ := p
  refine (ewrite_any h B d h1 at_ hat bv b (fun x hx e => (h3 x e).2.2 (hbv x hx)) hbs hwl).mono ?_
  rintro e w' ⟨rfl, hD, hT⟩
  obtain ⟨k1, k2, k3⟩ := pair_d h2 h3 h4 h5 hbase hh hD hT
  exact ⟨rfl, k1, k2, k3⟩
theorem Pair.eflush (hbase : base ≤ w.heap.size) (hh : hi ≤ w.heap.size) :
    Calls Try.prog 41 #[.pointer (some ⟨q, 0, none⟩)] w fun e w' => e = .returned (.int .i64 d.flush.2) ∧ Pair base X lo hi w' g d.flush.1 u r ∧ Bel base X w w' ∧ Keeps lo hi w w' := by
  obtain ⟨B, C, h1, h2, h3, h4, h5⟩ := p
  refine (eflush_any h B d h1).mono ?_
  rintro e w' ⟨rfl, hD, hT⟩
  obtain ⟨k1, k2, k3⟩ := pair_dB h2 h3 h4 h5 hbase hh hD hT
  exact ⟨rfl, k1, k2, k3⟩
end
theorem Pair.eimage {base : Nat} {X : Nat → Prop} {lo hi : Nat} {w : World} {g : Nat} {d : Dk} {u : Value} {r : Rk} (p : Pair base X lo hi w g d u r) {q f c : Nat} (h : PtAt w q f c g) (hfc : f + c ≤ d.n) :
    Calls Try.prog 43 #[.pointer (some ⟨q, 0, none⟩)] w fun e w' => ∃ v, e = .returned v ∧ OwnB w' w.heap.size 5 v ((d.has.drop (64 * f)).take (64 * c)) ∧ Below w.heap.size w w' := by
  obtain ⟨B, C, h1, _⟩ := p; exact eimage_any q f c g B d w h h1 hfc
/-- an extent's variable -/
structure EBox (w : World) (b : Nat) (f c : Int) : Prop where
  lt : b < w.heap.size
  c0 : w.cell? ⟨b, 0, none⟩ = some (.int .i64 f)
  c1 : w.cell? ⟨b, 1, none⟩ = some (.int .i64 c)
theorem EBox.later {F : Nat → Prop} {w w' : World} {b : Nat} {f c : Int} (h : EBox w b f c) (t : Later F w w') (hF : ¬ F b) : EBox w' b f c :=
  ⟨Nat.lt_of_lt_of_le h.lt t.1, (Later.cell t h.lt hF).1.trans h.c0, (Later.cell t h.lt hF).1.trans h.c1⟩
theorem EBox.below {w w' : World} {b : Nat} {f c : Int} (h : EBox w b f c) (t : Below w.heap.size w w') : EBox w' b f c := h.later (F := fun _ => False) (below_later t (Nat.le_refl _)) (fun h => h)
theorem EBox.new (w : World) (T : TypeId) (f c : Int) : EBox (w.alloc (.cells #[.int .i64 f, .int .i64 c] T)) w.heap.size f c := by
  have h := heap_alloc_new w (.cells #[.int .i64 f, .int .i64 c] T)
  exact ⟨by simp, cell_of_row _ _ 0 _ _ _ h, cell_of_row _ _ 1 _ _ _ h⟩
/-- what is not changed -/
theorem bel_later {base lo hi : Nat} {X : Nat → Prop} {w w' : World} (h : Bel base X w w') (k : Keeps lo hi w w') : Later (fun y => ¬ (y < base ∨ X y ∨ (lo ≤ y ∧ y < hi))) w w' :=
  ⟨h.size, fun y hl hf => by
    rcases Decidable.em (lo ≤ y ∧ y < hi) with e | e
    · exact k.2 y hl (fun h => h e)
    · rcases Nat.lt_or_ge y base with e2 | e2
      · exact h.b.block y e2
      · exact h.x y (Classical.byContradiction fun e3 => hf (fun o => by
          rcases o with o | o | o
          · omega
          · exact e3 o
          · exact e o)) hl⟩
/-- the law's state -/
def EX (bx bm q : Nat) (y : Nat) : Prop := y = bx ∨ y = bm ∨ y = q
structure ERel (w : World) (g q bx bm f c j : Nat) (wr : World) (d : Dk) (r : Rk) (A5 : Option Addr) (c5 : Nat) (A6 : Option Addr) (n6 c6 : Nat) (o6 : Bool) (lf6 : Int) (A7 : Option Addr) (n7 c7 : Nat) : Prop where
  p : Pair w.heap.size (EX bx bm q) 0 0 wr g d (.agg #[.slice A5 9 c5, .slice A6 n6 c6, .bool o6, .int .i64 lf6, .slice A7 n7 c7]) r
  s : Sim d r
  n : d.n = 9
  wl : d.waits.length ≤ j
  m : RBox wr bm (.slice A5 9 c5) (.slice A6 n6 c6) (.bool o6) (.int .i64 lf6) (.slice A7 n7 c7)
  t : PtAt wr q f c g
  e : EBox wr bx f c
  b : Below w.heap.size w wr
end Go.Proofs.Ytamkngpkplflcaa
