/- code.Number, formed, jumps, Check walked. -/
import Derived.Test.YtmgcbiejnifhpaaFaultNew
import Derived.Deep.DeepCutAuto
import Derived.Laws.BitsAllLaws
namespace Go.Proofs.Ytmgcbiejnifhpaa
open Go.RowKit

/-- an instruction -/
structure Ins where
  o : Nat
  a : Nat
  b : Nat
  c : Nat
def Ins.v (i : Ins) : Value := .agg #[.int .u8 (i.o : Nat), .int .u8 (i.a : Nat), .int .u8 (i.b : Nat), .int .u8 (i.c : Nat)]
structure Ins.Ok (i : Ins) : Prop where
  o : i.o < 256
  a : i.a < 256
  b : i.b < 256
  c : i.c < 256
/-- its number -/
def Ins.num (i : Ins) : Int := if i.o = 1 ∧ 32768 ≤ i.b + 256 * i.c then ((i.b + 256 * i.c : Nat) : Int) - 65536 else ((i.b + 256 * i.c : Nat) : Int)
theorem or256 (b c : Nat) (hb : b < 256) : b ||| (c * 256) = b + 256 * c := by
  have := Nat.shiftLeft_add_eq_or_of_lt (i := 8) (b := b) hb c
  rw [Nat.shiftLeft_eq] at this
  rw [Nat.or_comm, show c * 256 = c * 2 ^ 8 from rfl, ← this]
  omega
set_option maxRecDepth 100000 in
theorem number_any (i : Ins) (ok : i.Ok) (w : World) : Calls Try.prog 26 #[i.v] w fun e w' => e = .returned (.int .i64 i.num) ∧ Below w.heap.size w w' := by
  obtain ⟨o, a, b, c⟩ := i
  obtain ⟨ho, ha, hb, hc⟩ := ok
  dsimp only at ho ha hb hc
  obtain ⟨y, hy⟩ : ∃ y : Int, y = if o = 1 ∧ 32768 ≤ b + 256 * c then ((b + 256 * c : Nat) : Int) - 65536 else ((b + 256 * c : Nat) : Int) := ⟨_, rfl⟩
  show Calls _ _ #[.agg #[.int .u8 (o : Nat), .int .u8 (a : Nat), .int .u8 (b : Nat), .int .u8 (c : Nat)]] w fun e w' => e = .returned (.int .i64 (if o = 1 ∧ 32768 ≤ b + 256 * c then ((b + 256 * c : Nat) : Int) - 65536 else ((b + 256 * c : Nat) : Int))) ∧ _
  rw [← hy]
  have hy' := hide hy
  clear hy
  go_enter Try.func26, Try.ntmps26
  go_upto_region 2 with (fail)
  rw [show ((c : Int) * 256) = ((c * 256 : Nat) : Int) by omega, u16_or_nat _ _ (by omega) (by omega), or256 b c hb]
  have hN : b + 256 * c < 65536 := by omega
  have hy := hy'.out
  generalize b + 256 * c = N at *
  by_cases h1 : o = 1
  · subst h1
    have hw : IntKind.i16.wrap (N : Int) = y := by
      rw [hy]
      by_cases h : 32768 ≤ N
      · rw [if_pos ⟨rfl, h⟩]; unfold IntKind.wrap; simp [IntKind.bits, IntKind.signed]; omega
      · rw [if_neg (fun e => h e.2)]; unfold IntKind.wrap; simp [IntKind.bits, IntKind.signed]; omega
    have hyb : -32768 ≤ y ∧ y < 65536 := by rw [hy]; split <;> omega
    clear hy
    go_wp2_with fail
    go_ret
    exact ⟨rfl, (Below.refl _ _).alloc (Nat.le_refl _) _⟩
  · have e1 : ((o : Int) == 1) = false := by simp; omega
    have e2 : (o == 1) = false := by simp [h1]
    have e3 : decide (o = 1) = false := by simp [h1]
    rw [if_neg (fun e => h1 e.1)] at hy
    subst hy
    go_wp2_with fail
    go_ret
    exact ⟨rfl, (Below.refl _ _).alloc (Nat.le_refl _) _⟩
end Go.Proofs.Ytmgcbiejnifhpaa
