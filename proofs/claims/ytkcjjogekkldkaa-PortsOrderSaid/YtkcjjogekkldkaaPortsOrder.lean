/- The law PortsOrder walked. -/
import Derived.Test.YtkcjjogekkldkaaPortsSample
namespace Go.Proofs.Ytkcjjogekkldkaa
open Go.RowKit

theorem elem_strs : Elem Try.prog 41 9 1 16 := Elem.of (z := .string ⟨#[]⟩) Try.underlying41 (by kernel_rfl) rfl (by omega)
def strs (I : List (List UInt8)) : List Value := I.map fun l => .string ⟨l.toArray⟩
theorem strs_snoc (I : List (List UInt8)) (l : List UInt8) : strs (I ++ [l]) = strs I ++ [.string ⟨l.toArray⟩] := by simp [strs]

/-- what holds at a round's head -/
structure OrdInv (w1 wr : World) (g : Nat) (most : Int) (c : Chan) (vi vo : Value) (I O : List (List UInt8)) : Prop where
  ch : ChanAt wr g c
  kd : c.kind = 1 ∨ c.kind = 2
  ms : c.most = most
  oi : wr.ownsRow w1.heap.size 9 1 vi I.length (strs I)
  oo : wr.ownsRow w1.heap.size 9 1 vo O.length (strs O)
  ni : ∀ b, vi.ownBlock = some b → b ≠ g ∧ vo.ownBlock ≠ some b
  no : ∀ b, vo.ownBlock = some b → b ≠ g
  le : w1.heap.size ≤ g
  bw : Below w1.heap.size w1 wr

theorem OrdInv.alloc {w1 wr : World} {g : Nat} {most : Int} {c : Chan} {vi vo : Value} {I O : List (List UInt8)} (h : OrdInv w1 wr g most c vi vo I O) (o : Obj) : OrdInv w1 (wr.alloc o) g most c vi vo I O :=
  ⟨h.ch.alloc o, h.kd, h.ms, h.oi.alloc o, h.oo.alloc o, h.ni, h.no, h.le, h.bw.alloc h.bw.size o⟩
theorem own_touch {w w' : World} {F : Nat → Prop} {base : Nat} {e : TypeId} {size : Nat} {v : Value} {n : Nat} {xs : List Value} (h : w.ownsRow base e size v n xs) (t : Touch F w w') (hv : ∀ b, v.ownBlock = some b → ¬ F b) : w'.ownsRow base e size v n xs := by
  rcases h with ⟨h0, h | ⟨g, cap, cur, rfl, h1, h2, h3⟩⟩
  · exact ⟨h0, .inl h⟩
  · have hlt : g < w.heap.size := (Array.getElem?_eq_some_iff.1 h2).1
    exact ⟨h0, .inr ⟨g, cap, cur, rfl, h1, (t.2.2 g hlt (hv g rfl)).trans h2, h3⟩⟩
theorem OrdInv.touch {w1 wr w' : World} {g : Nat} {most : Int} {c c' : Chan} {vi vo : Value} {I O : List (List UInt8)} (h : OrdInv w1 wr g most c vi vo I O) (hc : ChanAt w' g c') (t : Touch (fun k => k = g) wr w') (hk : c'.kind = c.kind) (hm : c'.most = c.most) : OrdInv w1 w' g most c' vi vo I O :=
  ⟨hc, by rw [hk]; exact h.kd, hm.trans h.ms, own_touch h.oi t fun b hb => (h.ni b hb).1, own_touch h.oo t fun b hb => h.no b hb, h.ni, h.no, h.le, h.bw.trans (t.below h.bw.size (fun k _ e => by have := h.le; omega))⟩
theorem OrdInv.drew {w1 wr : World} {g : Nat} {most : Int} {c : Chan} {vi vo : Value} {I O : List (List UInt8)} (h : OrdInv w1 wr g most c vi vo I O) : OrdInv w1 wr.drew g most c vi vo I O :=
  h.touch (h.ch.later (F := fun _ => False) (later_drew _) (fun h => h)) (Touch.refl _ _).drew rfl rfl
theorem grown_touch {w w' : World} {row : Option Nat} (h : w.grownBy w' row) : Touch (fun k => some k = row) w w' :=
  ⟨(Below.refl _ _).grown h (Nat.zero_le _) (fun _ _ => Nat.zero_le _), later_grown h fun _ hk => hk.symm⟩
theorem OrdInv.out {w1 wr w' : World} {g : Nat} {most : Int} {c : Chan} {vi vo v' : Value} {I O : List (List UInt8)} {l : List UInt8} (h : OrdInv w1 wr g most c vi vo I O)
    (ho : w'.ownsRow w1.heap.size 9 1 v' (O.length + 1) (strs O ++ [.string ⟨l.toArray⟩])) (hg : wr.grownBy w' vo.ownBlock) (ha : v'.ownBlock = vo.ownBlock ∨ v'.ownBlock = some wr.heap.size) : OrdInv w1 w' g most c vi v' I (O ++ [l]) := by
  have t := grown_touch hg
  refine ⟨h.ch.later t.2 (fun e => h.no g e.symm rfl), h.kd, h.ms, own_touch h.oi t (fun b hb e => (h.ni b hb).2 e.symm), by rw [strs_snoc, List.length_append]; exact ho, fun b hb => ⟨(h.ni b hb).1, fun e => ?_⟩, fun b hb => ?_, h.le, h.bw.trans (t.below h.bw.size (fun k _ e => ?_))⟩
  · rcases ha with ha | ha
    · exact (h.ni b hb).2 (ha ▸ e)
    · rw [ha] at e
      have := (h.oi.lt b hb).2
      injection e with e
      omega
  · rcases ha with ha | ha
    · exact h.no b (ha ▸ hb)
    · rw [ha] at hb
      injection hb with hb
      have := h.ch.lt
      omega
  · have := (h.oo.lt k e.symm).1
    omega
theorem OrdInv.in_ {w1 wr w' : World} {g : Nat} {most : Int} {c : Chan} {vi vo v' : Value} {I O : List (List UInt8)} {l : List UInt8} (h : OrdInv w1 wr g most c vi vo I O)
    (ho : w'.ownsRow w1.heap.size 9 1 v' (I.length + 1) (strs I ++ [.string ⟨l.toArray⟩])) (hg : wr.grownBy w' vi.ownBlock) (ha : v'.ownBlock = vi.ownBlock ∨ v'.ownBlock = some wr.heap.size) : OrdInv w1 w' g most c v' vo (I ++ [l]) O := by
  have t := grown_touch hg
  refine ⟨h.ch.later t.2 (fun e => (h.ni g e.symm).1 rfl), h.kd, h.ms, by rw [strs_snoc, List.length_append]; exact ho, own_touch h.oo t (fun b hb e => (h.ni b e.symm).2 hb), fun b hb => ?_, h.no, h.le, h.bw.trans (t.below h.bw.size (fun k _ e => ?_))⟩
  · rcases ha with ha | ha
    · exact h.ni b (ha ▸ hb)
    · rw [ha] at hb
      injection hb with hb
      have := h.ch.lt
      refine ⟨by omega, fun e => ?_⟩
      have := (h.oo.lt b e).2
      omega
  · have := (h.oi.lt k e.symm).1
    omega
theorem own_form2 {w : World} {base : Nat} {e : TypeId} {v : Value} {n : Nat} {xs : List Value} (h : w.ownsRow base e 1 v n xs) : ∃ A cap, v = .slice A n cap ∧ (0 < n → ∃ g, A = some ⟨g, 0, none⟩ ∧ ∀ j u, xs[j]? = some u → w.cell? ⟨g, j, none⟩ = some u) := by
  have h' := h
  rcases h.2 with ⟨rfl, rfl⟩ | ⟨g, cap, cur, rfl, _⟩
  · exact ⟨_, _, rfl, fun h => absurd h (by omega)⟩
  · refine ⟨_, _, rfl, fun _ => ⟨g, rfl, fun j u hu => ?_⟩⟩
    have := h'.cells (g := g) rfl j u hu
    rwa [Addr.add_lit, Nat.zero_add] at this
theorem own_form {w : World} {base : Nat} {e : TypeId} {size : Nat} {v : Value} {n : Nat} {xs : List Value} (h : w.ownsRow base e size v n xs) : ∃ A cap, v = .slice A n cap := by
  rcases h.2 with ⟨rfl, rfl⟩ | ⟨g, cap, cur, rfl, _⟩
  · exact ⟨_, _, rfl⟩
  · exact ⟨_, _, rfl⟩

theorem popC_order (c : Chan) (r : List Msg) (h : c.kind = 1 ∨ c.kind = 2) : popC c r = { c with first := (c.first + 1) % 16, L := r } := if_neg (by omega)

theorem sendC_order (c : Chan) (l : List UInt8) (now : Nat) (h : c.kind = 1 ∨ c.kind = 2) : ∃ c' r, sendC c l now = (c', r) ∧ c'.kind = c.kind ∧ c'.most = c.most ∧
    ((c'.L = c.L ∧ (r = 1 ∨ r = 5)) ∨ (c'.L = c.L ∧ r = 0) ∨ (c'.L = c.L ++ [⟨l, now⟩] ∧ r = 0)) := by
  unfold sendC
  have h0 : ¬ c.kind = 0 := by omega
  rw [if_neg h0]
  by_cases h1 : c.size < (l.length : Int)
  · rw [if_pos h1]; exact ⟨c, 1, rfl, rfl, rfl, .inl ⟨rfl, .inl rfl⟩⟩
  · rw [if_neg h1]
    by_cases h2 : (c.L.length : Int) = c.most
    · rw [if_pos h2]
      by_cases h3 : c.kind = 1
      · rw [if_pos h3]; exact ⟨c, 5, rfl, rfl, rfl, .inl ⟨rfl, .inr rfl⟩⟩
      · rw [if_neg h3]; exact ⟨_, 0, rfl, rfl, rfl, .inr (.inl ⟨rfl, rfl⟩)⟩
    · rw [if_neg h2]; exact ⟨_, 0, rfl, rfl, rfl, .inr (.inr ⟨rfl, rfl⟩)⟩

set_option maxRecDepth 100000 in
set_option maxHeartbeats 2000000 in
theorem portsOrder_any (kind most size : Int) (A : Option Addr) (n c : Nat) (G : Nat → Act1) (w : World) (ha : ActsAt w A n G) :
    Calls Try.prog 4 #[.agg #[.int .i64 kind, .int .i64 most, .int .i64 size], .slice A n c] w fun e w' => e = .returned (.bool true) ∧ Below w.heap.size w w' := by
  by_cases hs : ChanOk kind most size
  · by_cases hk : kind = 0
    · subst hk
      have hs' := hide hs
      clear hs
      go_enter Try.func4, Try.ntmps4
      go_wp2_with fail
      refine (new_ok 0 most size _ hs'.out).mono ?_
      rintro e w1 ⟨g, rfl, hg1, hC1, hbb1⟩
      have hb1 := hide (((Below.refl _ _).alloc (Nat.le_refl _) _).trans (hbb1.mono (B' := w.heap.size) (by simp)))
      clear hbb1 hg1
      go_wp2_with fail
      refine (kind_any g _ _ hC1).mono ?_
      rintro e w' ⟨rfl, rfl⟩
      clear hC1
      go_wp2_with fail
      refine (awake12 _).mono ?_
      rintro e w3 ⟨rfl, hb3⟩
      go_wp2_with fail
      go_ret
      exact ⟨rfl, hb1.out.trans (hb3.mono hb1.out.size)⟩
    · have hkb : (kind == 0) = false := by simpa using hk
      have ha' := hide ha
      have hs' := hide hs
      have hk' := hide hk
      clear ha hs hk
      go_enter Try.func4, Try.ntmps4
      go_wp2_with fail
      have hx1 : (w.alloc (.cells #[.int .i64 kind, .int .i64 most, .int .i64 size] 39)).cell? ⟨w.heap.size, 1, none⟩ = some (.int .i64 most) := by simp [go_sem]
      have hb01 : Below w.heap.size w (w.alloc (.cells #[.int .i64 kind, .int .i64 most, .int .i64 size] 39)) := (Below.refl _ _).alloc (Nat.le_refl _) _
      have hl01 : w.heap.size < (w.alloc (.cells #[.int .i64 kind, .int .i64 most, .int .i64 size] 39)).heap.size := by simp
      generalize (w.alloc (.cells #[.int .i64 kind, .int .i64 most, .int .i64 size] 39)) = W1 at *
      have hb01' := hide hb01
      have hx1' := hide hx1
      clear hb01 hx1
      refine (new_ok kind most size _ hs'.out).mono ?_
      rintro e w2 ⟨g, rfl, hg1, hC1, hbb1⟩
      have hinv : OrdInv W1 w2 g most (newC kind most size) (.slice none 0 0) (.slice none 0 0) [] [] := ⟨hC1, by have := hs'.out.2.2; have := hk'.out; show kind = 1 ∨ kind = 2; omega, rfl, World.ownsRow_nil _ _ _ _, World.ownsRow_nil _ _ _ _, (fun b hb => by cases hb), (fun b hb => by cases hb), hg1, hbb1⟩
      have hinv' := hide hinv
      have hkk := kind_any g _ _ hC1
      have hkk' := hide hkk
      clear hC1 hg1 hbb1 hinv hkk
      go_wp2_with fail
      refine hkk'.out.mono ?_
      rintro e w' ⟨rfl, rfl⟩
      have hkb2 : ((newC kind most size).kind == 0) = false := hkb
      go_wp2_with fail
      clear hkk' hkb2
      go_loopw [7, 8, 9] (fun vi vo i wr => ∃ k : Nat, k ≤ n ∧ k ≤ 80 ∧ i = .int .i64 k ∧ ∃ c I O, OrdInv W1 wr g most c vi vo I O ∧ I = O ++ c.L.map (·.b) ∧ I.length ≤ k) (fun _ _ i _ => n - (intOf i).toNat)
      case atStart => exact ⟨0, Nat.zero_le _, Nat.zero_le _, rfl, _, [], [], hinv'.out, rfl, Nat.le_refl _⟩
      case round =>
        obtain ⟨k, hk, hk80, rfl, c, I, O, hv, hIO, hIk⟩ := hrel
        by_cases hlt : k < n ∧ k < 80
        · obtain ⟨hlt, h80⟩ := hlt
          obtain ⟨b, off, rfl, hA0⟩ := ha'.out (by omega)
          have hA := hA0.below (hb01'.out.trans (hv.bw.mono (by omega)))
          have hbl := hA0.lt
          have hbr := hA.lt
          have h80I : (k : Int) < 80 := by omega
          have hnow := hA.now k hlt
          have c0 := hA.c0 k hlt
          have q1 := hA.c1 k hlt
          have q2 := hA.c2 k hlt
          obtain ⟨B, cb, hvl, hcb1, hcb2, _⟩ := (hA.bs k hlt).open_
          have hbw := hide (hA0.bs k hlt)
          rw [hvl] at q1 hbw
          have hnb := hide (hbw.out.lt)
          have hv' := hide hv
          have hIO' := hide hIO
          have hOk : O.length ≤ k := by have := congrArg List.length hIO; rw [List.length_append] at this; omega
          have hxr := hide (show wr.cell? ⟨w.heap.size, 1, none⟩ = some (.int .i64 most) from (hv.bw.cell (p := ⟨w.heap.size, 1, none⟩) hl01).trans hx1'.out)
          have hrs : W1.heap.size ≤ wr.heap.size := hv.bw.size
          have hrg : g < wr.heap.size := hv.ch.lt
          have hgl := hv.le
          clear hA hA0 ha' hvl hinv' hIO hv hx1'
          generalize (G k).now = now at *
          generalize (G k).l = l at *
          cases hrc : (G k).rcv with
          | true =>
            rw [hrc] at c0
            clear hrc
            rcases hL : c.L with _ | ⟨m, r⟩
            · have hL' := hide hL
              clear hL
              go_wp2_with fail
              refine (recv_none g c now _ (hv'.out.ch.alloc _) hL'.out).mono ?_
              rintro e w3 ⟨rfl, rfl⟩
              go_wp2_with fail
              go_roundw
              case rel => exact ⟨k + 1, by omega, by omega, by go_num, c, I, O, hv'.out.alloc _, hIO'.out, by omega⟩
              case measure => simp [intOf]; omega
            · have hL' := hide hL
              clear hL
              go_wp2_with fail
              refine (recv_some g c m r now hnow _ (hv'.out.ch.alloc _) hL'.out).mono ?_
              rintro e w3 ⟨v3, rfl, hO, hC, hT⟩
              have hstr := run_str (P := Try.prog) 30 5 Try.underlying30 Try.underlying5 9 Try.underlying9 v3 m.b hO.bs
              have hv3 : OrdInv W1 w3 g most (popC c r) u7 u8 I O := (hv'.out.alloc _).touch hC hT (by rw [popC_order c r hv'.out.kd]) (by rw [popC_order c r hv'.out.kd])
              have hv3' := hide hv3
              have hIO3 : I = (O ++ [m.b]) ++ (popC c r).L.map (·.b) := by
                rw [popC_order c r hv'.out.kd, hIO'.out, hL'.out]; simp
              have hIO3' := hide hIO3
              have hs3 : W1.heap.size ≤ w3.heap.size := hv3.bw.size
              clear hO hC hT hv3 hIO3 hIO'
              go_wp2_with ((at_builtin; refine list_app elem_strs rfl (.tmp 60) (.tmp 63) rfl W1.heap.size u8 O.length (strs O) rfl (hv3'.out.oo.alloc _) ⟨w3.heap.size, 0, none⟩ 1 1 [.string ⟨m.b.toArray⟩] rfl rfl (World.news_of_block (cs := #[.string ⟨m.b.toArray⟩]) (t := 9) (fr := (0, 0)) (heap_alloc_new w3 _)) (by simp [Value.oneCell']) (by omega) (by simp only [maxLen]; omega) (by omega) (by simp; omega) (w3.heap.size + 1) (by simp) ?_))
              intro g4 cap4 w4 hown hgr hat hlt4
              have hv4 : OrdInv W1 w4 g most (popC c r) u7 (.slice (some ⟨g4, 0, none⟩) (O.length + 1) cap4) I (O ++ [m.b]) := (hv3'.out.alloc _).out hown hgr (by
                rcases hat with h | h
                · exact .inl h.symm
                · exact .inr (by rw [h]; simp [Value.ownBlock]))
              have hv4' := hide hv4
              clear hown hgr hat hv4
              go_wp2_with fail
              go_roundw
              case rel => exact ⟨k + 1, by omega, by omega, by go_num, _, I, O ++ [m.b], hv4'.out, hIO3'.out, by omega⟩
              case measure => simp [intOf]; omega
          | false =>
            rw [hrc] at c0
            clear hrc
            have hq16 := hv'.out.ch.idx.2
            have hn0 := hide (waiting_any g c (wr.alloc (.cells #[.bool false, .slice B l.length cb, .int .u64 now] 33)) (hv'.out.ch.alloc _))
            obtain ⟨c', r, hse, hk1, hm1, hcs⟩ := sendC_order c l now hv'.out.kd
            have hse' := hide hse
            have hkm := hide (And.intro hk1 hm1)
            have hIO2 := hide (show True → c'.L = c.L → I = O ++ c'.L.map (·.b) from fun _ h => by rw [h]; exact hIO'.out)
            clear hse hk1 hm1
            generalize hq : c.L.length = q at *
            have hq' := hide hq
            clear hq
            rcases hcs with ⟨hL, hr⟩ | ⟨hL, rfl⟩ | ⟨hL, rfl⟩
            · have hL' := hide hL
              clear hL
              rcases hr with rfl | rfl
              all_goals
                go_wp2_with fail
                refine hn0.out.mono ?_
                rintro e w' ⟨rfl, rfl⟩
                go_wp2_with fail
                refine (send_eq g c c' _ l now _ hse'.out hnow _ (hv'.out.ch.alloc _) (hbw.out.below (hb01'.out.trans ((hv'.out.bw.alloc hv'.out.bw.size _).mono (by omega)))) (fun hl x hx => by have := hnb.out hl x hx; omega)).mono ?_
                rintro e w3 ⟨rfl, hC, hT⟩
                have hv3 : OrdInv W1 w3 g most c' u7 u8 I O := (hv'.out.alloc _).touch hC hT hkm.out.1 hkm.out.2
                have hlr : wr.heap.size < w3.heap.size := by have := hT.size; simp at this; omega
                have e1 : w3.cell? ⟨wr.heap.size, 1, none⟩ = some (.slice B l.length cb) := by rw [(Later.cell (g := wr.heap.size) (o := 1) hT.2 (by simp) (by omega)).1]; simp [go_sem]
                have hx3 := hide (show w3.cell? ⟨w.heap.size, 1, none⟩ = some (.int .i64 most) from (hv3.bw.cell (p := ⟨w.heap.size, 1, none⟩) hl01).trans ((hv'.out.bw.cell (p := ⟨w.heap.size, 1, none⟩) hl01).symm.trans hxr.out))
                have hC' := hide hC
                have hv3' := hide hv3
                clear hC hT hv3
                go_wp2_with fail
                have fx : ∀ w', Later (fun _ => False) (w3).drew w' → w'.cell? ⟨w.heap.size, 1, none⟩ = some (.int .i64 most) := fun w' hl => (Later.cell (a := w3) hl (by omega) (fun h => h)).1.trans hx3.out
                have hd := hide (show decide (most < ((c'.L.length : Nat) : Int)) = false from decide_eq_false (by have := hC'.out.ok.len; have := hv3'.out.ms; omega))
                refine region_plan [(true, 0), (true, 2), (true, 3), (false, 1), (true, 4)] (Later fun _ => False) (later_refl _) (later_trans _) (by kernel_rfl) (by kernel_rfl) (fun _ _ d _ _ h => by cases d <;> exact h) ?_
                repeat
                  (first
                    | (show wpPlan _ _ _ _ ((true, _) :: _) _ _
                       refine plan_skip rfl (by rfl) ?_
                       simp only [Act.put, List.setIfInBounds_toArray, List.set_cons_zero, List.set_cons_succ])
                    | (show wpPlan _ _ _ _ ((false, _) :: _) _ _
                       refine plan_skip_eff (later_refl _) rfl (by rfl) ?_
                       simp only [Act.put, List.setIfInBounds_toArray, List.set_cons_zero, List.set_cons_succ])
                    | (show wpPlan _ _ _ _ ((true, _) :: _) _ _
                       refine plan_take (v := ?_) rfl (by rfl) (fun w' hw' => ?_) ?_
                       rotate_left
                       focus
                         go_simp
                         try with_reducible rfl
                         done
                       simp only [Act.put, List.setIfInBounds_toArray, List.set_cons_zero, List.set_cons_succ]))
                refine plan_eff rfl (by rfl) (fun K hK => ?_)
                go_wp2_with fail
                refine (waiting_any g c' _ (hC'.out.later (F := fun _ => False) (later_drew _) (fun h => h))).mono ?_
                rintro e w' ⟨rfl, rfl⟩
                refine hK _ _ (later_refl _ _) ?_
                clear hK K
                have hd := hd.out
                try simp only [Act.put, List.setIfInBounds_toArray, List.set_cons_zero, List.set_cons_succ]
                repeat
                  (first
                    | (show wpPlan _ _ _ _ ((true, _) :: _) _ _
                       refine plan_skip rfl (by rfl) ?_
                       simp only [Act.put, List.setIfInBounds_toArray, List.set_cons_zero, List.set_cons_succ])
                    | (show wpPlan _ _ _ _ ((false, _) :: _) _ _
                       refine plan_skip_eff (later_refl _) rfl (by rfl) ?_
                       simp only [Act.put, List.setIfInBounds_toArray, List.set_cons_zero, List.set_cons_succ])
                    | (show wpPlan _ _ _ _ ((true, _) :: _) _ _
                       refine plan_take (v := ?_) rfl (by rfl) (fun w' hw' => ?_) ?_
                       rotate_left
                       focus
                         go_simp
                         try with_reducible rfl
                         done
                       simp only [Act.put, List.setIfInBounds_toArray, List.set_cons_zero, List.set_cons_succ]))
                refine plan_nil ?_
                go_wp2_with fail
                go_roundw
                case rel => exact ⟨k + 1, by omega, by omega, by go_num, c', I, O, hv3'.out.drew, (hIO2.out trivial hL'.out), by first | omega | (rw [List.length_append]; simp; omega)⟩
                case measure => simp [intOf]; omega
            · have hL' := hide hL
              clear hL
              go_wp2_with fail
              refine hn0.out.mono ?_
              rintro e w' ⟨rfl, rfl⟩
              go_wp2_with fail
              refine (send_eq g c c' _ l now _ hse'.out hnow _ (hv'.out.ch.alloc _) (hbw.out.below (hb01'.out.trans ((hv'.out.bw.alloc hv'.out.bw.size _).mono (by omega)))) (fun hl x hx => by have := hnb.out hl x hx; omega)).mono ?_
              rintro e w3 ⟨rfl, hC, hT⟩
              have hv3 : OrdInv W1 w3 g most c' u7 u8 I O := (hv'.out.alloc _).touch hC hT hkm.out.1 hkm.out.2
              have hlr : wr.heap.size < w3.heap.size := by have := hT.size; simp at this; omega
              have e1 : w3.cell? ⟨wr.heap.size, 1, none⟩ = some (.slice B l.length cb) := by rw [(Later.cell (g := wr.heap.size) (o := 1) hT.2 (by simp) (by omega)).1]; simp [go_sem]
              have hx3 := hide (show w3.cell? ⟨w.heap.size, 1, none⟩ = some (.int .i64 most) from (hv3.bw.cell (p := ⟨w.heap.size, 1, none⟩) hl01).trans ((hv'.out.bw.cell (p := ⟨w.heap.size, 1, none⟩) hl01).symm.trans hxr.out))
              have hC' := hide hC
              have hv3' := hide hv3
              clear hC hT hv3
              go_wp2_with fail
              refine (waiting_eq g c' (q : Int) _ hC'.out (by rw [hL'.out, hq'.out])).mono ?_
              rintro e w' ⟨rfl, hw'⟩
              replace hw' := hw'.symm
              subst hw'
              have hqq : ((q : Int) == (q : Int) + 1) = false := by simpa using (show ¬ ((q : Int) = (q : Int) + 1) by omega)
              go_wp2_with fail
              have fx : ∀ w', Later (fun _ => False) (w3).drew w' → w'.cell? ⟨w.heap.size, 1, none⟩ = some (.int .i64 most) := fun w' hl => (Later.cell (a := w3) hl (by omega) (fun h => h)).1.trans hx3.out
              have hd := hide (show decide (most < ((c'.L.length : Nat) : Int)) = false from decide_eq_false (by have := hC'.out.ok.len; have := hv3'.out.ms; omega))
              refine region_plan [(true, 0), (true, 2), (true, 3), (false, 1), (true, 4)] (Later fun _ => False) (later_refl _) (later_trans _) (by kernel_rfl) (by kernel_rfl) (fun _ _ d _ _ h => by cases d <;> exact h) ?_
              repeat
                (first
                  | (show wpPlan _ _ _ _ ((true, _) :: _) _ _
                     refine plan_skip rfl (by rfl) ?_
                     simp only [Act.put, List.setIfInBounds_toArray, List.set_cons_zero, List.set_cons_succ])
                  | (show wpPlan _ _ _ _ ((false, _) :: _) _ _
                     refine plan_skip_eff (later_refl _) rfl (by rfl) ?_
                     simp only [Act.put, List.setIfInBounds_toArray, List.set_cons_zero, List.set_cons_succ])
                  | (show wpPlan _ _ _ _ ((true, _) :: _) _ _
                     refine plan_take (v := ?_) rfl (by rfl) (fun w' hw' => ?_) ?_
                     rotate_left
                     focus
                       go_simp
                       try with_reducible rfl
                       done
                     simp only [Act.put, List.setIfInBounds_toArray, List.set_cons_zero, List.set_cons_succ]))
              refine plan_eff rfl (by rfl) (fun K hK => ?_)
              go_wp2_with fail
              refine (waiting_any g c' _ (hC'.out.later (F := fun _ => False) (later_drew _) (fun h => h))).mono ?_
              rintro e w' ⟨rfl, rfl⟩
              refine hK _ _ (later_refl _ _) ?_
              clear hK K
              have hd := hd.out
              try simp only [Act.put, List.setIfInBounds_toArray, List.set_cons_zero, List.set_cons_succ]
              repeat
                (first
                  | (show wpPlan _ _ _ _ ((true, _) :: _) _ _
                     refine plan_skip rfl (by rfl) ?_
                     simp only [Act.put, List.setIfInBounds_toArray, List.set_cons_zero, List.set_cons_succ])
                  | (show wpPlan _ _ _ _ ((false, _) :: _) _ _
                     refine plan_skip_eff (later_refl _) rfl (by rfl) ?_
                     simp only [Act.put, List.setIfInBounds_toArray, List.set_cons_zero, List.set_cons_succ])
                  | (show wpPlan _ _ _ _ ((true, _) :: _) _ _
                     refine plan_take (v := ?_) rfl (by rfl) (fun w' hw' => ?_) ?_
                     rotate_left
                     focus
                       go_simp
                       try with_reducible rfl
                       done
                     simp only [Act.put, List.setIfInBounds_toArray, List.set_cons_zero, List.set_cons_succ]))
              refine plan_nil ?_
              go_wp2_with fail
              go_roundw
              case rel => exact ⟨k + 1, by omega, by omega, by go_num, c', I, O, hv3'.out.drew, (hIO2.out trivial hL'.out), by first | omega | (rw [List.length_append]; simp; omega)⟩
              case measure => simp [intOf]; omega
            · have hL' := hide hL
              clear hL
              go_wp2_with fail
              refine hn0.out.mono ?_
              rintro e w' ⟨rfl, rfl⟩
              go_wp2_with fail
              refine (send_eq g c c' _ l now _ hse'.out hnow _ (hv'.out.ch.alloc _) (hbw.out.below (hb01'.out.trans ((hv'.out.bw.alloc hv'.out.bw.size _).mono (by omega)))) (fun hl x hx => by have := hnb.out hl x hx; omega)).mono ?_
              rintro e w3 ⟨rfl, hC, hT⟩
              have hv3 : OrdInv W1 w3 g most c' u7 u8 I O := (hv'.out.alloc _).touch hC hT hkm.out.1 hkm.out.2
              have hlr : wr.heap.size < w3.heap.size := by have := hT.size; simp at this; omega
              have e1 : w3.cell? ⟨wr.heap.size, 1, none⟩ = some (.slice B l.length cb) := by rw [(Later.cell (g := wr.heap.size) (o := 1) hT.2 (by simp) (by omega)).1]; simp [go_sem]
              have hx3 := hide (show w3.cell? ⟨w.heap.size, 1, none⟩ = some (.int .i64 most) from (hv3.bw.cell (p := ⟨w.heap.size, 1, none⟩) hl01).trans ((hv'.out.bw.cell (p := ⟨w.heap.size, 1, none⟩) hl01).symm.trans hxr.out))
              have hC' := hide hC
              have hv3' := hide hv3
              clear hC hT hv3
              go_wp2_with fail
              refine (waiting_eq g c' ((q : Int) + 1) _ hC'.out (by have := hq'.out; rw [hL'.out, List.length_append]; simp; omega)).mono ?_
              rintro e w' ⟨rfl, hw'⟩
              replace hw' := hw'.symm
              subst hw'
              have fs := run_str (P := Try.prog) 30 5 Try.underlying30 Try.underlying5 9 Try.underlying9 _ l (hbw.out.below (hb01'.out.trans (hv3'.out.bw.mono (B' := w.heap.size) (by omega))))
              have hs3 : W1.heap.size ≤ w3.heap.size := hv3'.out.bw.size
              go_wp2_with ((at_builtin; refine list_app elem_strs rfl (.tmp 81) (.tmp 85) rfl W1.heap.size u7 I.length (strs I) rfl (hv3'.out.oi.alloc _) ⟨w3.heap.size, 0, none⟩ 1 1 [.string ⟨l.toArray⟩] rfl rfl (World.news_of_block (cs := #[.string ⟨l.toArray⟩]) (t := 9) (fr := (0, 0)) (heap_alloc_new w3 _)) (by simp [Value.oneCell']) (by omega) (by simp only [maxLen]; omega) (by omega) (by simp; omega) (w3.heap.size + 1) (by simp) ?_))
              intro g4 cap4 w4 hown hgr hat hlt4
              have hv4 : OrdInv W1 w4 g most c' (.slice (some ⟨g4, 0, none⟩) (I.length + 1) cap4) u8 (I ++ [l]) O := (hv3'.out.alloc _).in_ hown hgr (by
                rcases hat with h | h
                · exact .inl h.symm
                · exact .inr (by rw [h]; simp [Value.ownBlock]))
              replace hx3 := hide (show w4.cell? ⟨w.heap.size, 1, none⟩ = some (.int .i64 most) from (hv4.bw.cell (p := ⟨w.heap.size, 1, none⟩) hl01).trans ((hv3'.out.bw.cell (p := ⟨w.heap.size, 1, none⟩) hl01).symm.trans hx3.out))
              replace hC' := hide hv4.ch
              replace hv3' := hide hv4
              have hs4 : w.heap.size < w4.heap.size := by have := hv4.bw.size; omega
              have hIO5 := hide (show I ++ [l] = O ++ c'.L.map (·.b) by rw [hL'.out, hIO'.out]; simp)
              clear hown hgr hat hv4 fs
              go_wp2_with fail
              have fx : ∀ w', Later (fun _ => False) (w4).drew w' → w'.cell? ⟨w.heap.size, 1, none⟩ = some (.int .i64 most) := fun w' hl => (Later.cell (a := w4) hl (by omega) (fun h => h)).1.trans hx3.out
              have hd := hide (show decide (most < ((c'.L.length : Nat) : Int)) = false from decide_eq_false (by have := hC'.out.ok.len; have := hv3'.out.ms; omega))
              refine region_plan [(true, 0), (true, 2), (true, 3), (false, 1), (true, 4)] (Later fun _ => False) (later_refl _) (later_trans _) (by kernel_rfl) (by kernel_rfl) (fun _ _ d _ _ h => by cases d <;> exact h) ?_
              repeat
                (first
                  | (show wpPlan _ _ _ _ ((true, _) :: _) _ _
                     refine plan_skip rfl (by rfl) ?_
                     simp only [Act.put, List.setIfInBounds_toArray, List.set_cons_zero, List.set_cons_succ])
                  | (show wpPlan _ _ _ _ ((false, _) :: _) _ _
                     refine plan_skip_eff (later_refl _) rfl (by rfl) ?_
                     simp only [Act.put, List.setIfInBounds_toArray, List.set_cons_zero, List.set_cons_succ])
                  | (show wpPlan _ _ _ _ ((true, _) :: _) _ _
                     refine plan_take (v := ?_) rfl (by rfl) (fun w' hw' => ?_) ?_
                     rotate_left
                     focus
                       go_simp
                       try with_reducible rfl
                       done
                     simp only [Act.put, List.setIfInBounds_toArray, List.set_cons_zero, List.set_cons_succ]))
              refine plan_eff rfl (by rfl) (fun K hK => ?_)
              go_wp2_with fail
              refine (waiting_any g c' _ (hC'.out.later (F := fun _ => False) (later_drew _) (fun h => h))).mono ?_
              rintro e w' ⟨rfl, rfl⟩
              refine hK _ _ (later_refl _ _) ?_
              clear hK K
              have hd := hd.out
              try simp only [Act.put, List.setIfInBounds_toArray, List.set_cons_zero, List.set_cons_succ]
              repeat
                (first
                  | (show wpPlan _ _ _ _ ((true, _) :: _) _ _
                     refine plan_skip rfl (by rfl) ?_
                     simp only [Act.put, List.setIfInBounds_toArray, List.set_cons_zero, List.set_cons_succ])
                  | (show wpPlan _ _ _ _ ((false, _) :: _) _ _
                     refine plan_skip_eff (later_refl _) rfl (by rfl) ?_
                     simp only [Act.put, List.setIfInBounds_toArray, List.set_cons_zero, List.set_cons_succ])
                  | (show wpPlan _ _ _ _ ((true, _) :: _) _ _
                     refine plan_take (v := ?_) rfl (by rfl) (fun w' hw' => ?_) ?_
                     rotate_left
                     focus
                       go_simp
                       try with_reducible rfl
                       done
                     simp only [Act.put, List.setIfInBounds_toArray, List.set_cons_zero, List.set_cons_succ]))
              refine plan_nil ?_
              go_wp2_with fail
              go_roundw
              case rel => exact ⟨k + 1, by omega, by omega, by go_num, c', (I ++ [l]), O, hv3'.out.drew, hIO5.out, by first | omega | (rw [List.length_append]; simp; omega)⟩
              case measure => simp [intOf]; omega
        · obtain ⟨Ai, ci, rfl, hi⟩ := own_form2 hv.oi
          obtain ⟨Ao, co, rfl, ho⟩ := own_form2 hv.oo
          have hlen : I.length = O.length + c.L.length := by rw [hIO, List.length_append, List.length_map]
          have hne : ((I.length : Int) != (O.length : Int) + (c.L.length : Int)) = false := by simp; omega
          have hi' := hide hi
          have ho' := hide ho
          have hw := hide (waiting_any g c wr hv.ch)
          have hv' := hide hv
          have hIO' := hide hIO
          have hlen' := hide hlen
          have hO80 : O.length ≤ 80 := by omega
          have hL16 : c.L.length ≤ 16 := hv.ch.idx.2
          clear hi ho hv hIO hlen hinv' ha' hx1'
          go_wp2_with fail
          all_goals
            refine hw.out.mono ?_
            rintro e w' ⟨rfl, hw'⟩
            replace hw' := hw'.symm
            subst hw'
            go_wp2_with fail
            go_loopw [15] (fun i w5 => ∃ j : Nat, j ≤ O.length ∧ i = .int .i64 j ∧ Q wr w5) (fun i _ => O.length - (intOf i).toNat)
            case atStart => exact ⟨0, Nat.zero_le _, rfl, Q.refl _⟩
            case round =>
              obtain ⟨j, hj, rfl, hq⟩ := hrel
              by_cases hjl : j < O.length
              · obtain ⟨gi, rfl, hci⟩ := hi'.out (by have := hlen'.out; omega)
                obtain ⟨go, rfl, hco⟩ := ho'.out (by omega)
                have hjI : j < I.length := by have := hlen'.out; omega
                have hij : I[j] = O[j] := by simp only [hIO'.out]; exact List.getElem_append_left hjl
                obtain ⟨m, rfl⟩ := hq
                have f1 : wr.cell? ⟨gi, j, none⟩ = some (.string ⟨(O[j]).toArray⟩) := hci j _ (by rw [← hij]; simp [strs, hjI])
                have f2 : wr.cell? ⟨go, j, none⟩ = some (.string ⟨(O[j]).toArray⟩) := hco j _ (by simp [strs, hjl])
                have hjIi : (j : Int) < (I.length : Int) := by omega
                have hjOi : (j : Int) < (O.length : Int) := by omega
                clear hci hco hij hlt
                generalize O[j] = x at *
                go_wp2_with fail
                go_quiet (fail)
                go_wp2_with fail
                go_roundw
                case rel => exact ⟨j + 1, by omega, by go_num, ⟨_, rfl⟩⟩
                case measure => simp [intOf]; omega
              · go_wp2_with fail
                refine (awake12 _).mono ?_
                rintro e w6 ⟨rfl, hb6⟩
                go_wp2_with fail
                go_ret
                have hbq : Below w.heap.size w _ := (hb01'.out.trans (hv'.out.bw.mono (by omega))).trans (hq.below _)
                exact ⟨rfl, hbq.trans (hb6.mono hbq.size)⟩
  · have hb := hide hs
    clear hs
    go_enter Try.func4, Try.ntmps4
    go_wp2_with fail
    refine (new_bad kind most size _ hb.out).mono ?_
    rintro e w1 ⟨rfl, rfl⟩
    go_wp2_with fail
    refine (awake12 _).mono ?_
    rintro e w3 ⟨rfl, hb3⟩
    go_wp2_with fail
    go_ret
    exact ⟨rfl, ((Below.refl _ _).alloc (Nat.le_refl _) _).trans (hb3.mono (by simp))⟩
end Go.Proofs.Ytkcjjogekkldkaa
