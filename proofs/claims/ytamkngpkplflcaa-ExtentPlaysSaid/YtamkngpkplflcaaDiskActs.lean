/- law 05: the acts as they lie in memory; two disks beside each other. -/
import Derived.Test.YtamkngpkplflcaaDiskSizes
namespace Go.Proofs.Ytamkngpkplflcaa
open Go.RowKit

/-- an act -/
structure DAct where
  do_ : Int
  at_ : Int
  off : Int
  fill : UInt8
  kv : Value
  kl : List Bool
/-- bools that were there: read, and their block below B -/
def BoolsB (w : World) (B : Nat) (v : Value) (l : List Bool) : Prop := Bools w v l ∧ (l ≠ [] → ∀ b, v.ownBlock = some b → b < B)
theorem BoolsB.below {w w' : World} {B : Nat} {v : Value} {l : List Bool} (h : BoolsB w B v l) (hb : Below B w w') : BoolsB w' B v l := by
  refine ⟨?_, h.2⟩
  by_cases hl : l = []
  · obtain ⟨A, c, hv, h1, h2, h3, _⟩ := h.1
    exact ⟨A, c, hv, h1, h2, h3, fun hn => by subst hl; exact absurd hn (by simp)⟩
  · exact Sl.kept h.1 hb.size fun b hv hlt => hb.block b (h.2 hl b hv)
structure DActs (w : World) (B b off n : Nat) (G : Nat → DAct) : Prop where
  lt : 0 < n → b < B
  c0 : ∀ i, i < n → w.cell? ⟨b, off + i*5, none⟩ = some (.int .i64 (G i).do_)
  c1 : ∀ i, i < n → w.cell? ⟨b, off + i*5 + 1, none⟩ = some (.int .i64 (G i).at_)
  c2 : ∀ i, i < n → w.cell? ⟨b, off + i*5 + 2, none⟩ = some (.int .i64 (G i).off)
  c3 : ∀ i, i < n → w.cell? ⟨b, off + i*5 + 3, none⟩ = some (.int .u8 ((G i).fill.toNat : Int))
  c4 : ∀ i, i < n → w.cell? ⟨b, off + i*5 + 4, none⟩ = some (G i).kv
  k : ∀ i, i < n → BoolsB w B (G i).kv (G i).kl
  r0 : ∀ i, i < n → I64 (G i).do_ ∧ I64 (G i).at_ ∧ I64 (G i).off
theorem DActs.below {w w' : World} {B b off n : Nat} {G : Nat → DAct} (h : DActs w B b off n G) (hb : Below B w w') : DActs w' B b off n G := by
  refine ⟨h.lt, fun i hi => ?_, fun i hi => ?_, fun i hi => ?_, fun i hi => ?_, fun i hi => ?_, fun i hi => (h.k i hi).below hb, h.r0⟩
  · exact (hb.cell (p := ⟨b, off + i*5, none⟩) (h.lt (by omega))).trans (h.c0 i hi)
  · exact (hb.cell (p := ⟨b, off + i*5 + 1, none⟩) (h.lt (by omega))).trans (h.c1 i hi)
  · exact (hb.cell (p := ⟨b, off + i*5 + 2, none⟩) (h.lt (by omega))).trans (h.c2 i hi)
  · exact (hb.cell (p := ⟨b, off + i*5 + 3, none⟩) (h.lt (by omega))).trans (h.c3 i hi)
  · exact (hb.cell (p := ⟨b, off + i*5 + 4, none⟩) (h.lt (by omega))).trans (h.c4 i hi)

/-- two disks, each with its own blocks, all from base on -/
def Two (base : Nat) (w : World) (g1 g2 : Nat) (d1 d2 : Dk) : Prop :=
  ∃ B1 B2, Dsk w g1 B1 d1 ∧ Dsk w g2 B2 d2 ∧ (∀ y, B1 y → base ≤ y ∧ y < w.heap.size) ∧ (∀ y, B2 y → base ≤ y ∧ y < w.heap.size) ∧ ∀ y, B1 y → ¬ B2 y
theorem Two.symm {base : Nat} {w : World} {g1 g2 : Nat} {d1 d2 : Dk} (h : Two base w g1 g2 d1 d2) : Two base w g2 g1 d2 d1 := by
  obtain ⟨B1, B2, h1, h2, h3, h4, h5⟩ := h
  exact ⟨B2, B1, h2, h1, h4, h3, fun y k1 k2 => h5 y k2 k1⟩
theorem Two.below {base : Nat} {w w' : World} {g1 g2 : Nat} {d1 d2 : Dk} (h : Two base w g1 g2 d1 d2) (hb : Below w.heap.size w w') : Two base w' g1 g2 d1 d2 := by
  obtain ⟨B1, B2, h1, h2, h3, h4, h5⟩ := h
  have := hb.size
  exact ⟨B1, B2, h1.below hb, h2.below hb, fun y hy => ⟨(h3 y hy).1, by have := (h3 y hy).2; omega⟩, fun y hy => ⟨(h4 y hy).1, by have := (h4 y hy).2; omega⟩, h5⟩
/-- the first one worked -/
theorem two_step {base : Nat} {w w' : World} {g1 g2 : Nat} {d1' d2 : Dk} {B1 B2 : Nat → Prop} (h2 : Dsk w g2 B2 d2) (h3 : ∀ y, B1 y → base ≤ y ∧ y < w.heap.size) (h4 : ∀ y, B2 y → base ≤ y ∧ y < w.heap.size) (h5 : ∀ y, B1 y → ¬ B2 y)
    (hbase : base ≤ w.heap.size) (hD : Dsk w' g1 (fun x => B1 x ∨ (w.heap.size ≤ x ∧ x < w'.heap.size)) d1') (hT : Touch B1 w w') : Two base w' g1 g2 d1' d2 ∧ Below base w w' := by
  have hs := hT.size
  refine ⟨⟨_, B2, hD, h2.later hT.2 (fun x hx e => h5 x e hx), fun y hy => ?_, fun y hy => ⟨(h4 y hy).1, by have := (h4 y hy).2; omega⟩, fun y hy e => ?_⟩, hT.below hbase (fun k hk e => by have := (h3 k e).1; omega)⟩
  · rcases hy with hy | hy
    · exact ⟨(h3 y hy).1, by have := (h3 y hy).2; omega⟩
    · exact ⟨by omega, hy.2⟩
  · rcases hy with hy | hy
    · exact h5 y hy e
    · have := (h4 y e).2; omega
theorem two_step' {base : Nat} {w w' : World} {g1 g2 : Nat} {d1' d2 : Dk} {B1 B2 : Nat → Prop} (h2 : Dsk w g2 B2 d2) (h3 : ∀ y, B1 y → base ≤ y ∧ y < w.heap.size) (h4 : ∀ y, B2 y → base ≤ y ∧ y < w.heap.size) (h5 : ∀ y, B1 y → ¬ B2 y)
    (hbase : base ≤ w.heap.size) (hD : Dsk w' g1 B1 d1') (hT : Touch B1 w w') : Two base w' g1 g2 d1' d2 ∧ Below base w w' := two_step h2 h3 h4 h5 hbase (hD.mono fun _ hx => .inl hx) hT

section
variable {base : Nat} {w : World} {g1 g2 : Nat} {d1 d2 : Dk} (h : Two base w g1 g2 d1 d2) (hbase : base ≤ w.heap.size)
include h
theorem Two.ok1 : d1.Ok := by obtain ⟨B1, B2, h1, _⟩ := h; exact h1.ok
theorem Two.on1 : Calls Try.prog 20 #[.pointer (some ⟨g1, 0, none⟩)] w fun e w' => e = .returned (.bool (!d1.off)) ∧ w' = w := by
  obtain ⟨B1, B2, h1, _⟩ := h; exact h1.on_
theorem Two.image1 : Calls Try.prog 21 #[.pointer (some ⟨g1, 0, none⟩)] w fun e w' => ∃ v, e = .returned v ∧ OwnB w' w.heap.size 5 v d1.has ∧ Below w.heap.size w w' := by
  obtain ⟨B1, B2, h1, _⟩ := h; exact h1.image_
include hbase
theorem Two.flush1 : Calls Try.prog 25 #[.pointer (some ⟨g1, 0, none⟩)] w fun e w' => e = .returned (.int .i64 d1.flush.2) ∧ Two base w' g1 g2 d1.flush.1 d2 ∧ Below base w w' := by
  obtain ⟨B1, B2, h1, h2, h3, h4, h5⟩ := h
  refine h1.flush_.mono ?_
  rintro e w' ⟨rfl, k1, k2⟩
  exact ⟨rfl, two_step' h2 h3 h4 h5 hbase k1 k2⟩
theorem Two.crash1 (sv : Value) (l : List Bool) (hs : BoolsB w base sv l) : Calls Try.prog 24 #[.pointer (some ⟨g1, 0, none⟩), sv] w fun e w' => e = .returned (.tuple #[]) ∧ Two base w' g1 g2 (d1.crash l) d2 ∧ Below base w w' := by
  obtain ⟨B1, B2, h1, h2, h3, h4, h5⟩ := h
  refine (h1.crash_ sv l hs.1 (fun hl b hb e => by have := hs.2 hl b hb; have := (h3 b e).1; omega)).mono ?_
  rintro e w' ⟨rfl, k1, k2⟩
  exact ⟨rfl, two_step' h2 h3 h4 h5 hbase k1 k2⟩
theorem Two.arm1 (n : Int) (hn : I64 n) (sv : Value) (l : List Bool) (hs : BoolsB w base sv l) (hll : l.length ≤ 140737488355328) : Calls Try.prog 23 #[.pointer (some ⟨g1, 0, none⟩), .int .i64 n, sv] w fun e w' => e = .returned (.tuple #[]) ∧ Two base w' g1 g2 (d1.arm n l) d2 ∧ Below base w w' := by
  obtain ⟨B1, B2, h1, h2, h3, h4, h5⟩ := h
  refine (h1.arm_ n hn sv l hs.1 hll).mono ?_
  rintro e w' ⟨rfl, k1, k2⟩
  exact ⟨rfl, two_step h2 h3 h4 h5 hbase k1 k2⟩
end
end Go.Proofs.Ytamkngpkplflcaa
