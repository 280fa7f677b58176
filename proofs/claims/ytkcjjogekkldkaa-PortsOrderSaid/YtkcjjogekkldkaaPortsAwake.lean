/- The chapter's examples of ports (nacellelaw12.awake): they come out true. -/
import Derived.Test.YtkcjjogekkldkaaPortsRecv
import Derived.Lib.SlBytesConst
namespace Go.Proofs.Ytkcjjogekkldkaa
open Go.RowKit

theorem ChanAt.touch {w w' : World} {g g' : Nat} {c : Chan} (h : ChanAt w g c) (t : Touch (fun k => k = g') w w') (hne : g ≠ g') : ChanAt w' g c := h.later t.2 hne
theorem ChanAt.below {w w' : World} {g : Nat} {c : Chan} (h : ChanAt w g c) (t : Below w.heap.size w w') : ChanAt w' g c := h.later (F := fun _ => False) (below_later t (Nat.le_refl _)) (fun h => h)
theorem ChanAt.alloc {w : World} {g : Nat} {c : Chan} (h : ChanAt w g c) (o : Obj) : ChanAt (w.alloc o) g c := h.later (F := fun _ => False) (later_alloc _ _) (fun h => h)
theorem send_eq (g : Nat) (c c' : Chan) (v : Value) (l : List UInt8) (now : Nat) (r : Int) (hs : sendC c l now = (c', r)) (hnow : now < 18446744073709551616) (w : World) (h : ChanAt w g c) (hb : Bs w v l) (hv : l ≠ [] → ∀ b, v.ownBlock = some b → b ≠ g) :
    Calls Try.prog 15 #[.pointer (some ⟨g, 0, none⟩), v, .int .u64 now] w fun e w' => e = .returned (.int .i64 r) ∧ ChanAt w' g c' ∧ Touch (fun k => k = g) w w' := by
  have := send_any g c v l now hnow w h hb hv
  rw [hs] at this
  exact this
theorem recv_eq (g : Nat) (c c' : Chan) (m : Msg) (r : List Msg) (now a : Nat) (hnow : now < 18446744073709551616) (w : World) (h : ChanAt w g c) (hL : c.L = m :: r) (hp : popC c r = c') (ha : ageV now m.at_ = a) :
    Calls Try.prog 14 #[.pointer (some ⟨g, 0, none⟩), .int .u64 now] w fun e w' => ∃ v, e = .returned (.tuple #[v, .int .u64 a, .int .i64 0]) ∧ OwnB w' w.heap.size 5 v m.b ∧ ChanAt w' g c' ∧ Touch (fun k => k = g) w w' := by
  have := recv_some g c m r now hnow w h hL
  rw [hp, ha] at this
  exact this

/-- what is known behind each step of the examples -/
structure St (w w' : World) (g1 g2 g3 : Nat) (c1 c2 c3 : Chan) : Prop where
  h1 : ChanAt w' g1 c1
  h2 : ChanAt w' g2 c2
  h3 : ChanAt w' g3 c3
  d : g1 < g2 ∧ g2 < g3 ∧ w.heap.size ≤ g1
  t : Touch (fun k => w.heap.size ≤ k) w w'
theorem St.alloc {w w' : World} {g1 g2 g3 : Nat} {c1 c2 c3 : Chan} (s : St w w' g1 g2 g3 c1 c2 c3) (o : Obj) : St w (w'.alloc o) g1 g2 g3 c1 c2 c3 :=
  ⟨s.h1.alloc o, s.h2.alloc o, s.h3.alloc o, s.d, s.t.alloc o⟩
theorem St.s1 {w a b : World} {g1 g2 g3 : Nat} {c1 c2 c3 c' : Chan} (s : St w a g1 g2 g3 c1 c2 c3) (h : ChanAt b g1 c') (t : Touch (fun k => k = g1) a b) : St w b g1 g2 g3 c' c2 c3 :=
  ⟨h, s.h2.touch t (by have := s.d; omega), s.h3.touch t (by have := s.d; omega), s.d, s.t.trans (t.mono fun k _ e => by have := s.d; omega)⟩
theorem St.s2 {w a b : World} {g1 g2 g3 : Nat} {c1 c2 c3 c' : Chan} (s : St w a g1 g2 g3 c1 c2 c3) (h : ChanAt b g2 c') (t : Touch (fun k => k = g2) a b) : St w b g1 g2 g3 c1 c' c3 :=
  ⟨s.h1.touch t (by have := s.d; omega), h, s.h3.touch t (by have := s.d; omega), s.d, s.t.trans (t.mono fun k _ e => by have := s.d; omega)⟩
theorem St.s3 {w a b : World} {g1 g2 g3 : Nat} {c1 c2 c3 c' : Chan} (s : St w a g1 g2 g3 c1 c2 c3) (h : ChanAt b g3 c') (t : Touch (fun k => k = g3) a b) : St w b g1 g2 g3 c1 c2 c' :=
  ⟨s.h1.touch t (by have := s.d; omega), s.h2.touch t (by have := s.d; omega), h, s.d, s.t.trans (t.mono fun k _ e => by have := s.d; omega)⟩

set_option maxRecDepth 100000 in
set_option maxHeartbeats 1000000 in
theorem awake12 (w : World) : Calls Try.prog 13 #[] w fun e w' => e = .returned (.bool true) ∧ Below w.heap.size w w' := by
  have kc := fun (w : World) (C : Array Value) (n c : Nat) => Lib.run_convert_bytes_const (P := Try.prog) w 30 5 C n c Try.underlying30 Try.underlying5
  go_enter Try.func13, Try.ntmps13
  go_wp2_with fail
  refine (new_ok 1 1 8 _ (by unfold ChanOk; omega)).mono ?_
  rintro e w1 ⟨g1, rfl, hg1, hC1, hb1⟩
  have hC1' := hide hC1
  have hb1' := hide hb1
  have hg1' := hide hg1
  clear hC1 hb1 hg1
  go_wp2_with fail
  refine (new_ok 2 1 8 _ (by unfold ChanOk; omega)).mono ?_
  rintro e w2 ⟨g2, rfl, hg2, hC2, hb2⟩
  have hC2' := hide hC2
  have hb2' := hide hb2
  have hg2' := hide hg2
  clear hC2 hb2 hg2
  go_wp2_with fail
  refine (new_ok 0 1 8 _ (by unfold ChanOk; omega)).mono ?_
  rintro e w3 ⟨g3, rfl, hg3, hC3, hb3⟩
  have s : Hid (St w w3 g1 g2 g3 (newC 1 1 8) (newC 2 1 8) (newC 0 1 8)) := hide ⟨(hC1'.out.below hb2'.out).below hb3, hC2'.out.below hb3, hC3, by have := hC1'.out.lt; have := hC2'.out.lt; have := hg2'.out; have := hg1'.out; omega,
    (Touch.ofBelow hb1'.out).trans (((Touch.ofBelow hb2'.out).trans (Touch.ofBelow hb3)))⟩
  clear hC1' hb1' hg1' hC2' hb2' hg2' hC3 hb3 hg3
  go_wp2_with fail
  refine (send_eq g1 (newC 1 1 8) ⟨1, 1, 8, 0, [⟨[97], 1⟩], 0⟩ _ [97] 1 0 rfl (by decide) _ (s.out.alloc _).h1 (Bs.lit _ _ _ [97] 1 rfl rfl (by omega)) (by intro _ b hb; cases hb; have := (s.out.h1).lt; simp; omega)).mono ?_
  rintro e u1 ⟨rfl, hC, hT⟩
  replace s := hide ((s.out.alloc _).s1 hC hT)
  clear hC hT
  go_wp2_with fail
  refine (send_eq g1 ⟨1, 1, 8, 0, [⟨[97], 1⟩], 0⟩ ⟨1, 1, 8, 0, [⟨[97], 1⟩], 0⟩ _ [98] 1 5 rfl (by decide) _ (s.out.alloc _).h1 (Bs.lit _ _ _ [98] 1 rfl rfl (by omega)) (by intro _ b hb; cases hb; have := (s.out.h1).lt; simp; omega)).mono ?_
  rintro e u2 ⟨rfl, hC, hT⟩
  replace s := hide ((s.out.alloc _).s1 hC hT)
  clear hC hT
  go_wp2_with fail
  refine (send_eq g2 (newC 2 1 8) ⟨2, 1, 8, 0, [⟨[97], 1⟩], 0⟩ _ [97] 1 0 rfl (by decide) _ (s.out.alloc _).h2 (Bs.lit _ _ _ [97] 1 rfl rfl (by omega)) (by intro _ b hb; cases hb; have := (s.out.h2).lt; simp; omega)).mono ?_
  rintro e u3 ⟨rfl, hC, hT⟩
  replace s := hide ((s.out.alloc _).s2 hC hT)
  clear hC hT
  go_wp2_with fail
  refine (send_eq g2 ⟨2, 1, 8, 0, [⟨[97], 1⟩], 0⟩ ⟨2, 1, 8, 0, [⟨[97], 1⟩], 1⟩ _ [98] 1 0 rfl (by decide) _ (s.out.alloc _).h2 (Bs.lit _ _ _ [98] 1 rfl rfl (by omega)) (by intro _ b hb; cases hb; have := (s.out.h2).lt; simp; omega)).mono ?_
  rintro e u4 ⟨rfl, hC, hT⟩
  replace s := hide ((s.out.alloc _).s2 hC hT)
  clear hC hT
  go_wp2_with fail
  refine (send_eq g3 (newC 0 1 8) ⟨0, 1, 8, 0, [⟨[97], 5⟩], 0⟩ _ [97] 5 0 rfl (by decide) _ (s.out.alloc _).h3 (Bs.lit _ _ _ [97] 1 rfl rfl (by omega)) (by intro _ b hb; cases hb; have := (s.out.h3).lt; simp; omega)).mono ?_
  rintro e u5 ⟨rfl, hC, hT⟩
  replace s := hide ((s.out.alloc _).s3 hC hT)
  clear hC hT
  go_wp2_with fail
  refine (recv_eq g3 ⟨0, 1, 8, 0, [⟨[97], 5⟩], 0⟩ ⟨0, 1, 8, 0, [⟨[97], 5⟩], 0⟩ ⟨[97], 5⟩ [] 9 4 (by decide) _ s.out.h3 rfl rfl rfl).mono ?_
  rintro e u6 ⟨v6, rfl, hO, hC, hT⟩
  replace s := hide (s.out.s3 hC hT)
  clear hO hC hT
  go_wp2_with fail
  refine (recv_eq g3 ⟨0, 1, 8, 0, [⟨[97], 5⟩], 0⟩ ⟨0, 1, 8, 0, [⟨[97], 5⟩], 0⟩ ⟨[97], 5⟩ [] 9 4 (by decide) _ s.out.h3 rfl rfl rfl).mono ?_
  rintro e u7 ⟨v7, rfl, hO, hC, hT⟩
  replace s := hide (s.out.s3 hC hT)
  have hstr := run_str (P := Try.prog) 30 5 Try.underlying30 Try.underlying5 9 Try.underlying9 v7 [97] hO.bs
  clear hO hC hT
  go_wp2_with fail
  refine (lost_any g2 _ _ s.out.h2).mono ?_
  rintro e w' ⟨rfl, rfl⟩
  go_wp2_with fail
  refine (kind_any g1 _ _ s.out.h1).mono ?_
  rintro e w' ⟨rfl, rfl⟩
  go_wp2_with fail
  go_ret
  exact ⟨rfl, s.out.t.below (Nat.le_refl _) (fun k hk h => by omega)⟩
end Go.Proofs.Ytkcjjogekkldkaa
