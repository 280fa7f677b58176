/- Plain words for all walks of this seat: integers in range, what a call keeps of the memory, how a law's row is closed. No program's function in sight. -/
import Derived.Test.YtmgcbiejnifhpaaProg
import Derived.WalkKit
import Derived.WalkLawsBesides
import Derived.WalkSpells
import Derived.Deep.QuietTactic
import Derived.BigQuiet
import Derived.Deep.RegionHeld3
import Derived.Deep.AppendLies
import Derived.Deep.DrawnRows
namespace Go.Proofs.Ytmgcbiejnifhpaa
open Go.RowKit

theorem hide {p : Prop} (h : p) : Hid p := h

/-- an int's range -/
def I64 (n : Int) : Prop := -9223372036854775808 ≤ n ∧ n ≤ 9223372036854775807

/-- The world has only been asked for orders: all memory is as it was. -/
def Q (w w' : World) : Prop := ∃ m, w' = w.drewN m
theorem Q.refl (w : World) : Q w w := ⟨0, rfl⟩
theorem Q.trans {a b c : World} (h : Q a b) (k : Q b c) : Q a c := by
  obtain ⟨m, rfl⟩ := h
  obtain ⟨n, rfl⟩ := k
  exact ⟨m + n, by rw [World.drewN_drewN]⟩
theorem Q.drewN {a b : World} (h : Q a b) (n : Nat) : Q a (b.drewN n) := h.trans ⟨n, rfl⟩
theorem Q.drew {a b : World} (h : Q a b) : Q a b.drew := h.trans ⟨1, rfl⟩
theorem Q.cell {a b : World} (h : Q a b) (p : Addr) : b.cell? p = a.cell? p := by obtain ⟨m, rfl⟩ := h; rfl
theorem Q.below {a b : World} (h : Q a b) (B : Nat) : Below B a b := by
  obtain ⟨m, rfl⟩ := h
  exact ⟨rfl, rfl, rfl, Nat.le_refl _, fun _ _ => rfl⟩
theorem Q.size {a b : World} (h : Q a b) : b.heap.size = a.heap.size := by obtain ⟨m, rfl⟩ := h; rfl
theorem calls_quiet {P : Program} {f : FuncId} {args : Array Value} {w : World} {v : Value} (h : Calls P f args w fun e w' => e = .returned v ∧ Q w w') :
    Calls P f args w fun e w'' => e = .returned v ∧ ∃ m, w'' = w.drewN m := h

/-- What a call that only makes memory leaves: each old cell and each old mark, as two rules for the walk. -/
theorem bcell {W w1 : World} (hb : Below W.heap.size W w1) : (∀ b o, b < W.heap.size → w1.cell? ⟨b, o, none⟩ = W.cell? ⟨b, o, none⟩) ∧ (∀ b o, b < W.heap.size → w1.frozen? ⟨b, o, none⟩ = W.frozen? ⟨b, o, none⟩) :=
  ⟨fun b o h => hb.cell (p := ⟨b, o, none⟩) h, fun b o h => hb.frozen (p := ⟨b, o, none⟩) h⟩

/-- What is known of a slice's type: its elements' type, their cells and bytes. -/
structure Elem (P : Program) (t e : TypeId) (size bytes : Nat) : Prop where
  ht : P.underlying t = some (.slice e)
  hi : ∃ i z, P.info? e = some i ∧ i.zero = some z ∧ i.size = size ∧ i.bytes = bytes ∧ z.cells.size = size
  pos : 0 < size
theorem Elem.of {P : Program} {t e : TypeId} {z : Value} {size bytes : Nat} (ht : P.underlying t = some (.slice e)) (h : (P.info? e).map (fun i => (i.zero, i.size, i.bytes)) = some (some z, size, bytes)) (hz : z.cells.size = size) (hp : 0 < size) : Elem P t e size bytes := by
  obtain ⟨i, h1, h2, h3, h4⟩ := info_parts h
  exact ⟨ht, ⟨i, z, h1, h2, h3, h4, hz⟩, hp⟩

section
variable {P : Program} {w : World} {t e : TypeId} {size bytes : Nat}
/-- append of m cells' worth, at a step of a region that draws its order -/
theorem step_app (E : Elem P t e size bytes) {ops : Array Oper} {o : Oper} {a : Act} {K : Act → World → Prop} {Q : Exit → Act → World → Prop} {E' : Prop} (hgd : o.guard = none) (s x : Operand)
    (ho : o.op = .call { callee := .builtin .append, args := #[s, x], argTypes := #[t, t] }) (base : Nat)
    (v : Value) (n : Nat) (xs : List Value) (hs : a.eval s = v) (hown : w.ownsRow base e size v n xs)
    (ad : Addr) (m c : Nat) (news : List Value) (hx : a.eval x = .slice (some ad) m c) (hl : news.length = m * size) (hnews : ∀ j u, news[j]? = some u → w.cell? (ad.add j) = some u) (h1 : ∀ u ∈ news, u.oneCell' = true)
    (hm : 0 < m) (h63 : n + m ≤ maxLen) (hbytes : (n + m) * bytes ≤ 140737488355328) (hbase : base ≤ w.heap.size) (H : Nat) (hH : w.heap.size = H)
    (h : ∀ g cap w', w'.ownsRow base e size (.slice (some ⟨g, 0, none⟩) (n + m) cap) (n + m) (xs ++ news) → w.grownBy w' v.ownBlock → (v.ownBlock = some g ∨ g = H) → g < w'.heap.size → K (a.put o.dst (.slice (some ⟨g, 0, none⟩) (n + m) cap)) w') :
    if Region.wanted o (yielded ops a.tmps) = true then Oper.wp P o a w K Q else E' := by
  obtain ⟨i, z, h1', h2, h3, h4, h5⟩ := E.hi
  exact step_append_lies w hgd s x t ho base e i z size bytes E.ht h1' h2 h3 h4 h5 E.pos v n xs hs hown ad m c news hx hl hnews h1 hm h63 hbytes hbase H hH h
/-- append of m cells' worth, in a plain list of operations -/
theorem list_app (E : Elem P t e size bytes) {ops : Array Oper} {rest : List Oper} {o : Oper} {a : Act} {Q : Exit → Act → World → Prop} (hgd : o.guard = none) (s x : Operand)
    (ho : o.op = .call { callee := .builtin .append, args := #[s, x], argTypes := #[t, t] }) (base : Nat)
    (v : Value) (n : Nat) (xs : List Value) (hs : a.eval s = v) (hown : w.ownsRow base e size v n xs)
    (ad : Addr) (m c : Nat) (news : List Value) (hx : a.eval x = .slice (some ad) m c) (hl : news.length = m * size) (hnews : ∀ j u, news[j]? = some u → w.cell? (ad.add j) = some u) (h1 : ∀ u ∈ news, u.oneCell' = true)
    (hm : 0 < m) (h63 : n + m ≤ maxLen) (hbytes : (n + m) * bytes ≤ 140737488355328) (hbase : base ≤ w.heap.size) (H : Nat) (hH : w.heap.size = H)
    (h : ∀ g cap w', w'.ownsRow base e size (.slice (some ⟨g, 0, none⟩) (n + m) cap) (n + m) (xs ++ news) → w.grownBy w' v.ownBlock → (v.ownBlock = some g ∨ g = H) → g < w'.heap.size → wpList P ops Q rest (a.put o.dst (.slice (some ⟨g, 0, none⟩) (n + m) cap)) w') :
    wpList P ops Q (o :: rest) a w := by
  obtain ⟨i, z, h1', h2, h3, h4, h5⟩ := E.hi
  exact wpList_append_lies w hgd s x t ho base e i z size bytes E.ht h1' h2 h3 h4 h5 E.pos v n xs hs hown ad m c news hx hl hnews h1 hm h63 hbytes hbase H hH h
end

theorem ret_bool {a b : Bool} (h : a = b) : Ending.returned (.bool a) = .returned (.bool b) := by rw [h]
theorem ret_bool_iff {p q : Prop} [Decidable p] [Decidable q] (h : p ↔ q) : Ending.returned (.bool (decide p)) = .returned (.bool (decide q)) := by
  rw [decide_eq_decide.2 h]
theorem ret_false {p : Prop} [Decidable p] (h : ¬ p) : Ending.returned (.bool false) = .returned (.bool (decide p)) := by
  rw [decide_eq_false h]
theorem ret_true {p : Prop} [Decidable p] (h : p) : Ending.returned (.bool true) = .returned (.bool (decide p)) := by
  rw [decide_eq_true h]

/-- A slice of structs of two ints: n of them, at offset off of block b. -/
structure Pairs (w : World) (B : Nat) (b off n : Nat) (F G : Nat → Int) : Prop where
  lt : 0 < n → b < B
  cell0 : ∀ i, i < n → w.cell? ⟨b, off + i*2, none⟩ = some (.int .i64 (F i))
  cell1 : ∀ i, i < n → w.cell? ⟨b, off + i*2 + 1, none⟩ = some (.int .i64 (G i))
  wf : ∀ i, i < n → I64 (F i) ∧ I64 (G i)

theorem Pairs.below {w w' : World} {B b off n : Nat} {F G : Nat → Int} (h : Pairs w B b off n F G) (hb : Below B w w') : Pairs w' B b off n F G :=
  ⟨h.lt, fun i hi => by rw [hb.cell (p := ⟨b, off + i*2, none⟩) (h.lt (by omega))]; exact h.cell0 i hi,
    fun i hi => by rw [hb.cell (p := ⟨b, off + i*2 + 1, none⟩) (h.lt (by omega))]; exact h.cell1 i hi, h.wf⟩
theorem Pairs.more {w : World} {B B' b off n : Nat} {F G : Nat → Int} (h : Pairs w B b off n F G) (hB : B ≤ B') : Pairs w B' b off n F G :=
  ⟨fun hn => Nat.lt_of_lt_of_le (h.lt hn) hB, h.cell0, h.cell1, h.wf⟩
theorem Pairs.less {w : World} {B b off n m : Nat} {F G : Nat → Int} (h : Pairs w B b off n F G) (hm : m ≤ n) : Pairs w B b off m F G :=
  ⟨fun hn => h.lt (by omega), fun i hi => h.cell0 i (by omega), fun i hi => h.cell1 i (by omega), fun i hi => h.wf i (by omega)⟩
end Go.Proofs.Ytmgcbiejnifhpaa
