/- nacelleref11.Places and Turn walked. -/
import Derived.Test.YtkcjjogekkldkaaTabRef
namespace Go.Proofs.Ytkcjjogekkldkaa
open Go.RowKit

theorem elem_ints : Elem Try.prog 63 3 1 8 := Elem.of (z := .int .i64 0) Try.underlying63 (by kernel_rfl) rfl (by omega)
theorem own_mono {w : World} {base base' : Nat} {e : TypeId} {size : Nat} {v : Value} {n : Nat} {xs : List Value} (h : w.ownsRow base e size v n xs) (hb : base' ≤ base) : w.ownsRow base' e size v n xs :=
  ⟨h.1, h.2.imp id (fun ⟨g, cap, cur, a, b, c⟩ => ⟨g, cap, cur, a, Nat.le_trans hb b, c⟩)⟩
/-- for each of the first k places the window that has it -/
def Tab.places (t : Tab) (k : Nat) : List Value := (List.range k).map fun (j : Nat) => .int .i64 (t.at_ (j : Int))
theorem Tab.places_length (t : Tab) (k : Nat) : (t.places k).length = k := by simp [Tab.places]
theorem Tab.places_succ (t : Tab) (k : Nat) : t.places (k + 1) = t.places k ++ [.int .i64 (t.at_ k)] := by simp [Tab.places, List.range_succ]
theorem Tab.places_get (t : Tab) (k j : Nat) (h : j < k) : (t.places k)[j]? = some (.int .i64 (t.at_ j)) := by simp [Tab.places, h]

def PlacesPost (t : Tab) (w : World) (e : Ending) (w' : World) : Prop := ∃ v, e = .returned v ∧ w'.ownsRow w.heap.size 3 1 v t.T.toNat (t.places t.T.toNat) ∧ Below w.heap.size w w'
set_option maxRecDepth 100000 in
set_option maxHeartbeats 2000000 in
theorem places_any (t : Tab) (hok : t.Ok) (A : Option Addr) (c : Nat) (w : World) (h : TabV w A c t) :
    Calls Try.prog 25 #[.agg #[.int .i64 t.T, .slice A t.n c]] w (PlacesPost t w) := by
  have h' := hide h
  have hok' := hide hok
  have hT1 := hok.T1
  have hT2 := hok.T2
  have hn32 := hok.n32
  clear h hok
  go_enter Try.func25, Try.ntmps25
  go_wp2_with fail
  have hb0 := hide (show Below w.heap.size w (w.alloc (.cells #[.int .i64 t.T, .slice A t.n c] 59)) from (Below.refl _ _).alloc (Nat.le_refl _) _)
  have hl0 : w.heap.size < (w.alloc (.cells #[.int .i64 t.T, .slice A t.n c] 59)).heap.size := by simp
  have hx0' := hide (show (w.alloc (.cells #[.int .i64 t.T, .slice A t.n c] 59)).cell? ⟨w.heap.size, 0, none⟩ = some (.int .i64 t.T) by simp [go_sem])
  have hx1' := hide (show (w.alloc (.cells #[.int .i64 t.T, .slice A t.n c] 59)).cell? ⟨w.heap.size, 1, none⟩ = some (.slice A t.n c) by simp [go_sem])
  generalize w.alloc (.cells #[.int .i64 t.T, .slice A t.n c] 59) = W1 at *
  go_loopw [3, 4] (fun v i wr => ∃ k : Nat, k ≤ t.T.toNat ∧ i = .int .i64 k ∧ wr.ownsRow W1.heap.size 3 1 v k (t.places k) ∧ Below W1.heap.size W1 wr) (fun _ i _ => t.T.toNat - (intOf i).toNat)
  case atStart => exact ⟨0, Nat.zero_le _, rfl, World.ownsRow_nil _ _ _ _, Below.refl _ _⟩
  case round =>
    obtain ⟨k, hk, rfl, hown, hb⟩ := hrel
    have cT : wr.cell? ⟨w.heap.size, 0, none⟩ = some (.int .i64 t.T) := (hb.cell (p := ⟨w.heap.size, 0, none⟩) hl0).trans hx0'.out
    have cW : wr.cell? ⟨w.heap.size, 1, none⟩ = some (.slice A t.n c) := (hb.cell (p := ⟨w.heap.size, 1, none⟩) hl0).trans hx1'.out
    have hws : w.heap.size < wr.heap.size := by have := hb.size; omega
    have hown' := hide hown
    have hbw := hide (hb0.out.trans (hb.mono (Nat.le_of_lt hl0)))
    have hbr := hide hb
    clear hown hb
    by_cases hlt : k < t.T.toNat
    · have hkT : (k : Int) < t.T := by omega
      go_wp2_with fail
      obtain ⟨wo, rfl⟩ : ∃ wo : World, wo = wr := ⟨_, rfl⟩
      go_loopw [5, 6] (fun s i wi => ∃ m : Nat, m ≤ t.n ∧ i = .int .i64 m ∧ s = .int .i64 (t.lastOf m k) ∧ Q wo wi) (fun _ i _ => t.n - (intOf i).toNat)
      case atStart => exact ⟨0, Nat.zero_le _, rfl, rfl, Q.refl _⟩
      case round =>
        obtain ⟨m, hm, rfl, rfl, hq⟩ := hrel
        obtain ⟨nn, rfl⟩ := hq
        by_cases hlm : m < t.n
        · obtain ⟨b, off, rfl, hr0⟩ := h'.out.rows (by omega)
          have hr := hr0.below hbw.out
          have c1 := hr.f m hlm
          have c2 := hr.k m hlm
          have hw := hok'.out.win hlm
          have hnx := hide (show t.lastOf (m + 1) k = if t.F m ≤ (k : Int) ∧ (k : Int) < t.F m + t.K m then (m : Int) else t.lastOf m k from rfl)
          have hmI : (m : Int) < (t.n : Int) := by omega
          clear hr hr0
          generalize t.lastOf m k = ls at *
          generalize t.F m = f at *
          generalize t.K m = q at *
          obtain ⟨_, _, w3, w4, w5⟩ := hw
          have hs : IntKind.i64.wrap (f + q) = f + q := IntWalk.i64_in _ (by omega)
          by_cases hf : f ≤ (k : Int)
          · have hd1 : decide (f ≤ (k : Int)) = true := decide_eq_true hf
            by_cases hg : (k : Int) < f + q
            · have hd2 : decide ((k : Int) < f + q) = true := decide_eq_true hg
              have hv := hide (show t.lastOf (m + 1) k = (m : Int) by rw [hnx.out, if_pos ⟨hf, hg⟩])
              clear hnx
              go_wp2_with fail
              go_quiet (fail)
              go_wp2_with fail
              go_roundw
              case rel => exact ⟨m + 1, by omega, by go_num, by rw [hv.out], ⟨_, rfl⟩⟩
              case measure => simp [intOf]; omega
            · have hd2 : decide ((k : Int) < f + q) = false := decide_eq_false hg
              have hv := hide (show t.lastOf (m + 1) k = ls by rw [hnx.out, if_neg (fun e => hg e.2)])
              clear hnx
              go_wp2_with fail
              go_quiet (fail)
              go_wp2_with fail
              go_roundw
              case rel => exact ⟨m + 1, by omega, by go_num, by rw [hv.out], ⟨_, rfl⟩⟩
              case measure => simp [intOf]; omega
          · have hd1 : decide (f ≤ (k : Int)) = false := decide_eq_false hf
            have hv := hide (show t.lastOf (m + 1) k = ls by rw [hnx.out, if_neg (fun e => hf e.1)])
            clear hnx
            go_wp2_with fail
            go_quiet (fail)
            go_wp2_with fail
            go_roundw
            case rel => exact ⟨m + 1, by omega, by go_num, by rw [hv.out], ⟨_, rfl⟩⟩
            case measure => simp [intOf]; omega
        · obtain rfl : m = t.n := by omega
          have hq2 := hide (Q.drewN (Q.refl wo) nn)
          have hqb := hide (hq2.out.below wo.heap.size)
          have hown2 := hide (World.ownsRow.kept (row := none) hown'.out ⟨hqb.out.os, hqb.out.tape, hqb.out.output, hqb.out.size, fun k hk _ => hqb.out.block k hk⟩ (by cases hv : u3.ownBlock <;> simp))
          have hsz2 : (wo.drewN nn).heap.size = wo.heap.size := hq2.out.size
          have hb2 := hide (hbr.out.trans (hq2.out.below _))
          have hsz3 : W1.heap.size ≤ (wo.drewN nn).heap.size := hb2.out.size
          have hat := hide (show t.lastOf t.n k = t.at_ k from rfl)
          clear hsz2
          generalize wo.drewN nn = w4 at *
          have cT4 : w4.cell? ⟨w.heap.size, 0, none⟩ = some (.int .i64 t.T) := (hq2.out.cell _).trans cT
          have cW4 : w4.cell? ⟨w.heap.size, 1, none⟩ = some (.slice A t.n c) := (hq2.out.cell _).trans cW
          generalize t.lastOf t.n k = ak at *
          go_wp2_with ((at_builtin; refine list_app elem_ints rfl (.tmp 46) (.tmp 48) rfl W1.heap.size u3 k (t.places k) rfl (hown2.out.alloc _) ⟨w4.heap.size, 0, none⟩ 1 1 [.int .i64 ak] rfl rfl (World.news_of_block (cs := #[.int .i64 ak]) (t := 3) (fr := (0, 0)) (heap_alloc_new w4 _)) (by simp [Value.oneCell']) (by omega) (by simp only [maxLen]; omega) (by omega) (by simp; omega) (w4.heap.size + 1) (by simp) ?_))
          intro g5 cap5 w5 hown5 hgr5 hat5 hlt5
          have hb5 : Below W1.heap.size W1 w5 := (hb2.out.alloc hsz3 _).grown hgr5 (by simp; omega) (fun g hg => (hown2.out.lt g hg).1)
          rw [show [Value.int .i64 ak] = [Value.int .i64 (t.at_ k)] by rw [hat.out], ← Tab.places_succ] at hown5
          have hown5' := hide hown5
          have hb5' := hide hb5
          clear hown5 hgr5 hat5 hb5
          go_wp2_with fail
          go_roundw
          case rel => exact ⟨k + 1, by omega, by go_num, hown5'.out, hb5'.out⟩
          case measure => simp [intOf]; omega
    · obtain rfl : k = t.T.toNat := by omega
      have hkT : ¬ ((t.T.toNat : Nat) : Int) < t.T := by omega
      go_wp2_with fail
      go_ret
      exact ⟨_, rfl, own_mono hown'.out hb0.out.size, hbw.out⟩

set_option maxRecDepth 100000 in
set_option maxHeartbeats 1000000 in
theorem refTurn_any (t : Tab) (hok : t.Ok) (A : Option Addr) (c : Nat) (v : Value) (base : Nat) (part : Int) (q : Nat) (hq : q < t.T.toNat) (w : World) (h : TabV w A c t) (hown : w.ownsRow base 3 1 v t.T.toNat (t.places t.T.toNat)) :
    Calls Try.prog 42 #[.agg #[.int .i64 t.T, .slice A t.n c], v, .int .i64 part, .int .i64 q] w fun e w' => e = .returned (.bool (decide (t.turn part q))) ∧ Below w.heap.size w w' := by
  have hT1 := hok.T1
  have hT2 := hok.T2
  obtain ⟨g, cap, rfl, hc⟩ : ∃ g cap, v = .slice (some ⟨g, 0, none⟩) t.T.toNat cap ∧ w.cell? ⟨g, q, none⟩ = some (.int .i64 (t.at_ q)) := by
    rcases hown.2 with ⟨_, h0⟩ | ⟨g, cap, cur, rfl, _⟩
    · omega
    · refine ⟨g, cap, rfl, ?_⟩
      have := hown.cells (g := g) rfl q _ (t.places_get _ q hq)
      rwa [Addr.add_lit, Nat.zero_add] at this
  have hg : g < w.heap.size := (hown.lt g rfl).2
  have htd := hide (show t.turn part q ↔ (0 ≤ t.at_ q ∧ t.P (t.at_ q).toNat = part) from Iff.rfl)
  have hrg := t.at_range q
  have hqI : (q : Int) < ((t.T.toNat : Nat) : Int) := by omega
  have h' := hide h
  clear h hown hok
  generalize t.at_ q = i at *
  generalize hTn : t.T.toNat = tn at *
  have hTn' := hide hTn
  clear hTn
  obtain ⟨hr1, hr2⟩ := hrg
  by_cases hi : 0 ≤ i
  · obtain ⟨k, rfl⟩ := Int.eq_ofNat_of_zero_le hi
    obtain ⟨b, off, rfl, hr⟩ := h'.out.rows (by omega)
    have c0 := hr.p k (by omega)
    have hbl := hr.lt
    have hkI : (k : Int) < (t.n : Int) := by omega
    have htp := hide (show t.turn part q ↔ t.P k = part by rw [htd.out, Int.toNat_natCast]; exact ⟨fun e => e.2, fun e => ⟨hi, e⟩⟩)
    clear hr htd
    generalize t.P k = p at *
    have hd1 : decide ((0 : Int) ≤ (k : Int)) = true := decide_eq_true hi
    by_cases hp : p = part
    · have hpb : (p == part) = true := by simpa using hp
      have hv := hide (show decide (t.turn part q) = true from decide_eq_true (htp.out.2 hp))
      clear htp hp
      go_enter Try.func42, Try.ntmps42
      go_wp2_with fail
      go_quiet (fail)
      go_wp2_with fail
      go_ret
      exact ⟨by rw [hv.out]; rfl, ((Below.refl _ _).alloc (Nat.le_refl _) _).trans ((Q.drewN (Q.refl _) _).below _)⟩
    · have hpb : (p == part) = false := by simpa using hp
      have hv := hide (show decide (t.turn part q) = false from decide_eq_false (fun e => hp (htp.out.1 e)))
      clear htp hp
      go_enter Try.func42, Try.ntmps42
      go_wp2_with fail
      go_quiet (fail)
      go_wp2_with fail
      go_ret
      exact ⟨by rw [hv.out]; rfl, ((Below.refl _ _).alloc (Nat.le_refl _) _).trans ((Q.drewN (Q.refl _) _).below _)⟩
  · have hd1 : decide ((0 : Int) ≤ i) = false := decide_eq_false hi
    have hv := hide (show decide (t.turn part q) = false from decide_eq_false (fun e => hi (htd.out.1 e).1))
    clear htd
    go_enter Try.func42, Try.ntmps42
    go_wp2_with fail
    go_quiet (fail)
    go_wp2_with fail
    go_ret
    exact ⟨by rw [hv.out]; rfl, ((Below.refl _ _).alloc (Nat.le_refl _) _).trans ((Q.drewN (Q.refl _) _).below _)⟩
end Go.Proofs.Ytkcjjogekkldkaa
