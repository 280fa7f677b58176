/- The law ExtentConfined: what is read of a disk behind a write; arrays of nine bytes. Plain. -/
import Derived.Test.YtamkngpkplflcaaExtPart
import Derived.Test.YtamkngpkplflcaaDiskActs
namespace Go.Proofs.Ytamkngpkplflcaa
open Go.RowKit

structure Arr9 (w : World) (b : Nat) (F : Nat → UInt8) : Prop where
  lt : b < w.heap.size
  c : ∀ j, j < 9 → w.cell? ⟨b, j, none⟩ = some (.int .u8 ((F j).toNat : Int))
  z : ∀ j, w.frozen? ⟨b, j, none⟩ = false
theorem Arr9.later {F : Nat → Prop} {w w' : World} {b : Nat} {G : Nat → UInt8} (h : Arr9 w b G) (t : Later F w w') (hF : ¬ F b) : Arr9 w' b G :=
  ⟨Nat.lt_of_lt_of_le h.lt t.1, fun j hj => (Later.cell t h.lt hF).1.trans (h.c j hj), fun j => (Later.cell t h.lt hF).2.trans (h.z j)⟩
theorem Arr9.below {w w' : World} {b : Nat} {G : Nat → UInt8} (h : Arr9 w b G) (t : Below w.heap.size w w') : Arr9 w' b G := h.later (F := fun _ => False) (below_later t (Nat.le_refl _)) (fun h => h)
def upd (F : Nat → UInt8) (k : Nat) (c : UInt8) : Nat → UInt8 := fun j => if j = k then c else F j
theorem Arr9.set {w : World} {b : Nat} {G : Nat → UInt8} (h : Arr9 w b G) (k : Nat) (hk : k < 9) (c : UInt8) : Arr9 (w.setCell ⟨b, k, none⟩ (.int .u8 (c.toNat : Int))) b (upd G k c) := by
  have hl : Later (fun x => x = b) w (w.setCell ⟨b, k, none⟩ (.int .u8 (c.toNat : Int))) := later_setCell (F := fun x => x = b) w (p := ⟨b, k, none⟩) _ rfl
  refine ⟨Nat.lt_of_lt_of_le h.lt hl.1, fun j hj => ?_, fun j => by rw [World.frozen?_setCell]; exact h.z j⟩
  unfold upd
  by_cases e : j = k
  · subst e
    rw [if_pos rfl]
    exact World.cell?_setCell_same _ _ _ (h.c j hj)
  · rw [if_neg e]
    exact (World.cell?_setCell_other _ _ _ _ (by simp)).trans (h.c j hj)

theorem readN_push (at_ : Nat) (b0 : List UInt8) (ws : List Wt) (x : Wt) (i : Nat) (hi : i ≤ ws.length) : readN at_ b0 (ws ++ [x]) i = readN at_ b0 ws i := by
  induction i with
  | zero => rfl
  | succ i ih =>
    have e : (ws ++ [x]).getD i ⟨0, []⟩ = ws.getD i ⟨0, []⟩ := by simp [List.getD, List.getElem?_append_left (show i < ws.length by omega)]
    rw [readN, readN, e, ih (by omega)]
/-- what a sector says behind a write -/
theorem read_write (d : Dk) (s : Nat) (b : List UInt8) (k : Nat) : ({ d with waits := d.waits ++ [⟨s, b⟩] } : Dk).read k = if s = k then b else d.read k := by
  unfold Dk.read
  simp only [List.length_append, List.length_cons, List.length_nil, Nat.zero_add]
  rw [readN]
  have e : (d.waits ++ [(⟨s, b⟩ : Wt)]).getD d.waits.length ⟨0, []⟩ = (⟨s, b⟩ : Wt) := by simp [List.getD]
  rw [e, readN_push _ _ _ _ _ (Nat.le_refl _)]
  rfl

/-- a disk of nine sectors that is on and not armed, each sector all of one byte -/
structure CInv (d : Dk) (V : Nat → UInt8) : Prop where
  n : d.n = 9
  off : d.off = false
  arm : d.armed = false
  rd : ∀ k, k < 9 → d.read k = List.replicate 64 (V k)
theorem CInv.new : CInv (newDk 9) (fun _ => 0) := ⟨rfl, rfl, rfl, fun k hk => by
  show (newDk 9).sector k = _
  unfold Dk.sector newDk
  simp only [List.drop_replicate, List.take_replicate]
  congr 1
  omega⟩
theorem CInv.write {d : Dk} {V : Nat → UInt8} (h : CInv d V) (s : Nat) (hs : s < 9) (c : UInt8) : d.write s (List.replicate 64 c) = ({ d with waits := d.waits ++ [⟨s, List.replicate 64 c⟩] }, 0) ∧ CInv { d with waits := d.waits ++ [⟨s, List.replicate 64 c⟩] } (upd V s c) := by
  have hg : d.goes = (d, true) := by unfold Dk.goes; rw [if_neg (by simp [h.off]), if_pos h.arm]
  refine ⟨?_, h.n, h.off, h.arm, fun k hk => ?_⟩
  · unfold Dk.write
    rw [if_neg (by rw [h.n]; simp; omega), if_neg (by simp), hg]
    simp
  · rw [read_write]
    unfold upd
    by_cases e : k = s
    · subst e; rw [if_pos rfl, if_pos rfl]
    · rw [if_neg (fun h => e h.symm), if_neg e]; exact h.rd k hk
theorem CInv.reads {d : Dk} {V : Nat → UInt8} (h : CInv d V) (k : Nat) (hk : k < 9) : d.reads k = (List.replicate 64 (V k), 0) := by
  unfold Dk.reads
  rw [if_neg (by rw [h.n]; simp; omega), if_neg (by simp [h.off]), Int.toNat_natCast, h.rd k hk]
/-- what each sector says: nothing, what the first part wrote, what the second one wrote -/
def vOf (n : Nat) (one two : Nat → UInt8) : Nat → UInt8 := fun k => if 1 ≤ k ∧ k ≤ n then one (k - 1) else if n < k ∧ k ≤ n + 3 then two (k - 1 - n) else 0
theorem vOf_one (n : Nat) (one two : Nat → UInt8) (at_ : Nat) (h : at_ < n) (c : UInt8) : upd (vOf n one two) (1 + at_) c = vOf n (upd one at_ c) two := by
  funext k
  unfold upd vOf
  by_cases e : k = 1 + at_
  · subst e
    rw [if_pos rfl, if_pos (by omega)]
    show c = if _ then _ else _
    rw [if_pos (by omega)]
  · rw [if_neg e]
    by_cases h1 : 1 ≤ k ∧ k ≤ n
    · rw [if_pos h1, if_pos h1]
      show _ = if _ then _ else _
      rw [if_neg (by omega)]
    · rw [if_neg h1, if_neg h1]
theorem vOf_two (n : Nat) (one two : Nat → UInt8) (at_ : Nat) (h : at_ < 3) (c : UInt8) : upd (vOf n one two) (1 + n + at_) c = vOf n one (upd two at_ c) := by
  funext k
  unfold upd vOf
  by_cases e : k = 1 + n + at_
  · subst e
    rw [if_pos rfl, if_neg (by omega), if_pos (by omega)]
    show c = if _ then _ else _
    rw [if_pos (by omega)]
  · rw [if_neg e]
    by_cases h1 : 1 ≤ k ∧ k ≤ n
    · rw [if_pos h1, if_pos h1]
    · rw [if_neg h1, if_neg h1]
      by_cases h2 : n < k ∧ k ≤ n + 3
      · rw [if_pos h2, if_pos h2]
        show _ = if _ then _ else _
        rw [if_neg (by omega)]
      · rw [if_neg h2, if_neg h2]
theorem place_in (f c at_ : Nat) (hf : f ≤ 100) (hc : c ≤ 100) (h : at_ < c) : placeV f c at_ = (((f + at_ : Nat) : Int), 0) := by
  unfold placeV
  rw [if_neg (by omega)]
  simp
theorem place_out (f c at_ : Int) (h : ¬ (0 ≤ at_ ∧ at_ < c)) : placeV f c at_ = (0, 4) := by
  unfold placeV
  rw [if_pos (by omega)]
theorem CInv.pwrite_in {d : Dk} {V : Nat → UInt8} (h : CInv d V) (f c at_ : Nat) (hf : f ≤ 100) (hc : c ≤ 100) (hat : at_ < c) (hs : f + at_ < 9) (x : UInt8) :
    pwrite d f c at_ (List.replicate 64 x) = ({ d with waits := d.waits ++ [⟨f + at_, List.replicate 64 x⟩] }, 0) ∧ CInv { d with waits := d.waits ++ [⟨f + at_, List.replicate 64 x⟩] } (upd V (f + at_) x) := by
  obtain ⟨h1, h2⟩ := h.write (f + at_) hs x
  unfold pwrite
  rw [place_in f c at_ hf hc hat, if_pos rfl]
  exact ⟨h1, h2⟩
theorem pwrite_out (d : Dk) (f c at_ : Int) (b : List UInt8) (h : ¬ (0 ≤ at_ ∧ at_ < c)) : pwrite d f c at_ b = (d, 4) := by
  unfold pwrite
  rw [place_out f c at_ h]
  rfl
theorem CInv.pread_in {d : Dk} {V : Nat → UInt8} (h : CInv d V) (f c at_ : Nat) (hf : f ≤ 100) (hc : c ≤ 100) (hat : at_ < c) (hs : f + at_ < 9) : pread d f c at_ = (List.replicate 64 (V (f + at_)), 0) := by
  unfold pread
  rw [place_in f c at_ hf hc hat, if_pos rfl]
  exact h.reads (f + at_) hs
theorem vOf_1 (n : Nat) (one two : Nat → UInt8) (j : Nat) (h : j < n) : vOf n one two (1 + j) = one j := by unfold vOf; rw [if_pos (by omega)]; congr 1; omega
theorem vOf_2 (n : Nat) (one two : Nat → UInt8) (j : Nat) (h : j < 3) : vOf n one two (1 + n + j) = two j := by unfold vOf; rw [if_neg (by omega), if_pos (by omega)]; congr 1; omega
theorem arr9_new (w : World) (T : TypeId) : Arr9 (w.alloc (.cells #[.int .u8 0, .int .u8 0, .int .u8 0, .int .u8 0, .int .u8 0, .int .u8 0, .int .u8 0, .int .u8 0, .int .u8 0] T)) w.heap.size (fun _ => 0) := by
  refine ⟨by simp, fun j hj => ?_, fun j => frozen_of_row _ _ j _ _ (heap_alloc_last w _)⟩
  rw [cell_of_row _ _ j _ _ _ (heap_alloc_new w _)]
  obtain rfl | rfl | rfl | rfl | rfl | rfl | rfl | rfl | rfl : j = 0 ∨ j = 1 ∨ j = 2 ∨ j = 3 ∨ j = 4 ∨ j = 5 ∨ j = 6 ∨ j = 7 ∨ j = 8 := by omega
  all_goals rfl
/-- what holds at a round's head -/
def CRel (w : World) (gd p q bo bt n k : Nat) (wr : World) : Prop :=
  ∃ d one two B, CInv d (vOf n one two) ∧ Dsk wr gd B d ∧ d.waits.length ≤ k ∧ PtAt wr p 1 n gd ∧ PtAt wr q ((1 + n : Nat) : Int) 3 gd ∧ Arr9 wr bo one ∧ Arr9 wr bt two ∧ (∀ y, B y → w.heap.size ≤ y ∧ y < wr.heap.size ∧ y ≠ p ∧ y ≠ q ∧ y ≠ bo ∧ y ≠ bt) ∧ Below w.heap.size w wr
end Go.Proofs.Ytamkngpkplflcaa
