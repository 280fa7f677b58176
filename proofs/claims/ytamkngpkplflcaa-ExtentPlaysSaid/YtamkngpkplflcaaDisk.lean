/- disk: a disk in memory, and what becomes of it. -/
import Derived.Test.YtamkngpkplflcaaTouch
import Derived.Laws.IdiomCopy
import Derived.Laws.OwnMore
namespace Go.Proofs.Ytamkngpkplflcaa
open Go.RowKit

theorem elem_writes : Elem Try.prog 89 94 2 32 := Elem.of (z := .agg #[.int .i64 0, .slice none 0 0]) Try.underlying89 (by kernel_rfl) rfl (by omega)
theorem elem_bools : Elem Try.prog 48 4 1 1 := Elem.of (z := .bool false) Try.underlying48 (by kernel_rfl) rfl (by omega)

/-- a write that waits -/
structure Wt where
  s : Nat
  b : List UInt8
/-- a disk: its bytes, what waits, the power -/
structure Dk where
  n : Nat
  has : List UInt8
  waits : List Wt
  off : Bool
  armed : Bool
  left : Int
  surv : List Bool

/-- bytes of which some are others from k on -/
def splice (l : List UInt8) (k : Nat) (m : List UInt8) : List UInt8 := l.take k ++ m ++ l.drop (k + m.length)
theorem splice_length (l m : List UInt8) (k : Nat) (h : k + m.length ≤ l.length) : (splice l k m).length = l.length := by
  unfold splice; simp; omega
def lay (has : List UInt8) (w : Wt) : List UInt8 := splice has (64 * w.s) w.b
/-- of the first i that wait those that count are laid, in order -/
def layN (has : List UInt8) (keep : Nat → Bool) (ws : List Wt) : Nat → List UInt8
  | 0 => has
  | i + 1 => if keep i then lay (layN has keep ws i) (ws.getD i ⟨0, []⟩) else layN has keep ws i
def Dk.sector (d : Dk) (at_ : Nat) : List UInt8 := (d.has.drop (64 * at_)).take 64
/-- of the first i that wait the last one of a sector, else what it has -/
def readN (at_ : Nat) (b : List UInt8) (ws : List Wt) : Nat → List UInt8
  | 0 => b
  | i + 1 => if (ws.getD i ⟨0, []⟩).s = at_ then (ws.getD i ⟨0, []⟩).b else readN at_ b ws i
def Dk.read (d : Dk) (at_ : Nat) : List UInt8 := readN at_ (d.sector at_) d.waits d.waits.length
def keeps (l : List Bool) (i : Nat) : Bool := l.getD i false
def Dk.crash (d : Dk) (keep : List Bool) : Dk := if d.off then d else { d with has := layN d.has (keeps keep) d.waits d.waits.length, waits := [], off := true, armed := false }
/-- may a call be done? -/
def Dk.goes (d : Dk) : Dk × Bool :=
  if d.off then (d, false) else if d.armed = false then (d, true) else if 0 < d.left then ({ d with left := d.left - 1 }, true) else (d.crash d.surv, false)
def Dk.write (d : Dk) (at_ : Int) (b : List UInt8) : Dk × Int :=
  if ¬ (0 ≤ at_ ∧ at_ < d.n) then (d, 4) else if b.length ≠ 64 then (d, 1)
  else if d.goes.2 then ({ d.goes.1 with waits := d.goes.1.waits ++ [⟨at_.toNat, b⟩] }, 0) else (d.goes.1, 9)
def Dk.flush (d : Dk) : Dk × Int := if d.goes.2 then ({ d.goes.1 with has := layN d.goes.1.has (fun _ => true) d.goes.1.waits d.goes.1.waits.length, waits := [] }, 0) else (d.goes.1, 9)

structure Dk.Ok (d : Dk) : Prop where
  n1 : 1 ≤ d.n
  n2 : d.n ≤ 256
  len : d.has.length = 64 * d.n
  wt : ∀ w ∈ d.waits, w.s < d.n ∧ w.b.length = 64
  left : -9223372036854775808 ≤ d.left ∧ d.left ≤ 9223372036854775807

/-- the cells of the writes that wait: q i is the slice of write i's bytes -/
def waitsV (ws : List Wt) (q : List Value) : List Value := (ws.zip q).flatMap fun x => [Value.int .i64 (x.1.s : Nat), x.2]
theorem waitsV_get : ∀ (ws : List Wt) (q : List Value), q.length = ws.length → ∀ i (h : i < ws.length), (waitsV ws q)[2 * i]? = some (.int .i64 (ws[i].s : Nat)) ∧ (waitsV ws q)[2 * i + 1]? = q[i]?
  | [], _, _, i, h => absurd h (Nat.not_lt_zero _)
  | w :: ws, [], hq, _, _ => by simp at hq
  | w :: ws, v :: q, hq, 0, _ => by simp [waitsV]
  | w :: ws, v :: q, hq, i + 1, h => by
    have ih := waitsV_get ws q (by simpa using hq) i (by simpa using h)
    have e : waitsV (w :: ws) (v :: q) = .int .i64 (w.s : Nat) :: v :: waitsV ws q := by simp [waitsV]
    rw [e, show 2 * (i + 1) = 2 * i + 1 + 1 by omega, show 2 * i + 1 + 1 + 1 = (2 * i + 1) + 1 + 1 by omega]
    simp only [List.getElem?_cons_succ, List.getElem_cons_succ]
    exact ih
def boolsV (l : List Bool) : List Value := l.map Value.bool

/-- the disk d lies at g; h: its bytes' block; vw, vs: what waits, the survivors; q: the slices of what waits -/
structure DkAt (w : World) (g h : Nat) (vw vs : Value) (q : List Value) (d : Dk) : Prop where
  lt : g < w.heap.size
  c0 : w.cell? ⟨g, 0, none⟩ = some (.slice (some ⟨h, 0, none⟩) (64 * d.n) (64 * d.n))
  c1 : w.cell? ⟨g, 1, none⟩ = some vw
  c2 : w.cell? ⟨g, 2, none⟩ = some (.bool d.off)
  c3 : w.cell? ⟨g, 3, none⟩ = some (.bool d.armed)
  c4 : w.cell? ⟨g, 4, none⟩ = some (.int .i64 d.left)
  c5 : w.cell? ⟨g, 5, none⟩ = some vs
  thaw : ∀ j, w.frozen? ⟨g, j, none⟩ = false
  has : w.ownsRow 0 5 1 (.slice (some ⟨h, 0, none⟩) (64 * d.n) (64 * d.n)) (64 * d.n) (bytesV d.has)
  ws : w.ownsRow 0 94 2 vw d.waits.length (waitsV d.waits q)
  ql : q.length = d.waits.length
  qb : ∀ i (hi : i < d.waits.length), ∃ v, q[i]? = some v ∧ Bs w v (d.waits[i]).b ∧ ∃ b c, v = .slice (some ⟨b, 0, none⟩) 64 c ∧ b ≠ g ∧ b ≠ h ∧ vw.ownBlock ≠ some b
  sv : w.ownsRow 0 4 1 vs d.surv.length (boolsV d.surv)
  d1 : g ≠ h
  d2 : ∀ b, vw.ownBlock = some b → b ≠ g ∧ b ≠ h
  d3 : ∀ b, vs.ownBlock = some b → b ≠ g ∧ b ≠ h ∧ vw.ownBlock ≠ some b
  ok : d.Ok
/-- the blocks that an operation of the disk may change -/
def DkF (g h : Nat) (vw : Value) (x : Nat) : Prop := x = g ∨ x = h ∨ vw.ownBlock = some x
/-- all blocks of the disk -/
def DkB (g h : Nat) (vw vs : Value) (q : List Value) (x : Nat) : Prop := x = g ∨ x = h ∨ vw.ownBlock = some x ∨ vs.ownBlock = some x ∨ ∃ v ∈ q, v.ownBlock = some x

theorem own_later {w w' : World} {F : Nat → Prop} {base : Nat} {e : TypeId} {size : Nat} {v : Value} {n : Nat} {xs : List Value} (h : w.ownsRow base e size v n xs) (t : Later F w w') (hv : ∀ b, v.ownBlock = some b → ¬ F b) : w'.ownsRow base e size v n xs := by
  rcases h with ⟨h0, h | ⟨g, cap, cur, rfl, h1, h2, h3⟩⟩
  · exact ⟨h0, .inl h⟩
  · have hlt : g < w.heap.size := (Array.getElem?_eq_some_iff.1 h2).1
    exact ⟨h0, .inr ⟨g, cap, cur, rfl, h1, (t.2 g hlt (hv g rfl)).trans h2, h3⟩⟩
theorem DkAt.later {w w' : World} {F : Nat → Prop} {g h : Nat} {vw vs : Value} {q : List Value} {d : Dk} (a : DkAt w g h vw vs q d) (t : Later F w w') (hF : ∀ x, DkB g h vw vs q x → ¬ F x) : DkAt w' g h vw vs q d := by
  have hg := hF g (.inl rfl)
  have e := fun o => Later.cell t (o := o) a.lt hg
  refine ⟨Nat.lt_of_lt_of_le a.lt t.1, (e 0).1.trans a.c0, (e 1).1.trans a.c1, (e 2).1.trans a.c2, (e 3).1.trans a.c3, (e 4).1.trans a.c4, (e 5).1.trans a.c5, fun j => (e j).2.trans (a.thaw j),
    own_later a.has t (fun b hb => hF b (by cases hb; exact .inr (.inl rfl))), own_later a.ws t (fun b hb => hF b (.inr (.inr (.inl hb)))), a.ql, fun i hi => ?_, own_later a.sv t (fun b hb => hF b (.inr (.inr (.inr (.inl hb))))), a.d1, a.d2, a.d3, a.ok⟩
  obtain ⟨v, h1, h2, h3⟩ := a.qb i hi
  exact ⟨v, h1, h2.later t (fun b hb => hF b (.inr (.inr (.inr (.inr ⟨v, List.mem_of_getElem? h1, hb⟩))))), h3⟩
end Go.Proofs.Ytamkngpkplflcaa
