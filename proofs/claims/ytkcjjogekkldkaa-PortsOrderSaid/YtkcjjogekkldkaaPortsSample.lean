/- The law PortsSample walked. -/
import Derived.Test.YtkcjjogekkldkaaPortsActs
namespace Go.Proofs.Ytkcjjogekkldkaa
open Go.RowKit

/-- what holds at a round's head -/
structure SampleInv (w wr : World) (g : Nat) (size : Int) (c : Chan) (s a b : Value) : Prop where
  ch : ChanAt wr g c
  kd : c.kind = 0
  sz : c.size = size
  st : (c.L = [] ∧ s = .string ⟨#[]⟩ ∧ a = .int .u64 0 ∧ b = .bool false) ∨ ∃ m, c.L = [m] ∧ s = .string ⟨m.b.toArray⟩ ∧ a = .int .u64 m.at_ ∧ b = .bool true
  le : w.heap.size ≤ g
  bw : Below w.heap.size w wr

theorem waiting_eq (g : Nat) (c : Chan) (n : Int) (w : World) (h : ChanAt w g c) (hn : (c.L.length : Int) = n) :
    Calls Try.prog 17 #[.pointer (some ⟨g, 0, none⟩)] w fun e w' => e = .returned (.int .i64 n) ∧ w' = w := by
  have := waiting_any g c w h
  rw [hn] at this
  exact this
theorem sendC_sample (c : Chan) (l : List UInt8) (now : Nat) (h : c.kind = 0) (hl : ¬ c.size < (l.length : Int)) : sendC c l now = ({ c with L := [⟨l, now⟩] }, 0) := by
  unfold sendC; rw [if_neg hl, if_pos h]
theorem popC_sample (c : Chan) (r : List Msg) (h : c.kind = 0) : popC c r = c := if_pos h

set_option maxRecDepth 100000 in
set_option maxHeartbeats 2000000 in
theorem portsSample_any (size : Int) (A : Option Addr) (n c : Nat) (G : Nat → Act1) (w : World) (ha : ActsAt w A n G) :
    Calls Try.prog 5 #[.int .i64 size, .slice A n c] w fun e w' => e = .returned (.bool true) ∧ Below w.heap.size w w' := by
  by_cases hs : 0 ≤ size ∧ size ≤ 64
  · have hs' := hide hs
    have ha' := hide ha
    clear ha
    go_enter Try.func5, Try.ntmps5
    go_wp2_with fail
    refine (new_ok 0 1 size _ (by unfold ChanOk; omega)).mono ?_
    rintro e w1 ⟨g, rfl, hg1, hC1, hbb1⟩
    have hinv : SampleInv w w1 g size _ (.string ⟨#[]⟩) (.int .u64 0) (.bool false) := ⟨hC1, rfl, rfl, .inl ⟨rfl, rfl, rfl, rfl⟩, hg1, hbb1⟩
    have hinv' := hide hinv
    clear hC1 hg1 hbb1 hinv
    go_wp2_with fail
    go_loopw [7, 8, 9, 10] (fun s a b i wr => ∃ k : Nat, k ≤ n ∧ i = .int .i64 k ∧ ∃ c, SampleInv w wr g size c s a b) (fun _ _ _ i _ => n - (intOf i).toNat)
    case atStart => exact ⟨0, Nat.zero_le _, rfl, _, hinv'.out⟩
    case round =>
      obtain ⟨k, hk, rfl, c, hv⟩ := hrel
      by_cases hlt : k < n ∧ k < 80
      · obtain ⟨hlt, h80⟩ := hlt
        obtain ⟨b, off, rfl, hA0⟩ := ha'.out (by omega)
        have hA := hA0.below hv.bw
        have hbl := hA0.lt
        have hbr := hA.lt
        have h80I : (k : Int) < 80 := by omega
        have hnow := hA.now k hlt
        have c0 := hA.c0 k hlt
        have q1 := hA.c1 k hlt
        have q2 := hA.c2 k hlt
        obtain ⟨B, cb, hvl, hcb1, hcb2, _⟩ := (hA.bs k hlt).open_
        have hbw := hide (hA0.bs k hlt)
        rw [hvl] at q1 hbw
        have hnb := hide (hbw.out.lt)
        have hv' := hide hv
        have hvd := hv.le
        clear hA hA0 ha' hvl hinv'
        generalize (G k).now = now at *
        generalize (G k).l = l at *
        cases hrc : (G k).rcv with
        | true =>
          rw [hrc] at c0
          clear hrc
          rcases hv.st with ⟨hL, rfl, rfl, rfl⟩ | ⟨m, hL, rfl, rfl, rfl⟩
          · have hL' := hide hL
            clear hL hv
            go_wp2_with fail
            refine (recv_none g c now _ (hv'.out.ch.alloc _) hL'.out).mono ?_
            rintro e w3 ⟨rfl, rfl⟩
            go_wp2_with fail
            go_roundw
            case rel => exact ⟨k + 1, by omega, by go_num, c, hv'.out.ch.alloc _, hv'.out.kd, hv'.out.sz, .inl ⟨hL'.out, rfl, rfl, rfl⟩, hvd, hv'.out.bw.alloc hv'.out.bw.size _⟩
            case measure => simp [intOf]; omega
          · have hL' := hide hL
            clear hL hv
            by_cases hage : m.at_ ≤ now
            · have hd1 : decide (m.at_ ≤ now) = true := decide_eq_true hage
              have hd2 : decide (now < m.at_) = false := decide_eq_false (by omega)
              have hsub : IntKind.u64.wrap ((now : Int) - (m.at_ : Int)) = ((now - m.at_ : Nat) : Int) := by rw [IntWalk.u64_in _ (by omega)]; omega
              have hag : ageV now m.at_ = now - m.at_ := by unfold ageV; split <;> omega
              go_wp2_with fail
              refine (recv_eq g c c m [] now ((now - m.at_)) hnow _ (hv'.out.ch.alloc _) hL'.out (popC_sample c [] hv'.out.kd) hag).mono ?_
              rintro e w3 ⟨v3, rfl, hO, hC, hT⟩
              have hstr := run_str (P := Try.prog) 30 5 Try.underlying30 Try.underlying5 9 Try.underlying9 v3 m.b hO.bs
              have hC' := hide hC
              have hT' := hide hT
              have r2 : w3.cell? ⟨wr.heap.size, 2, none⟩ = some (.int .u64 now) := by
                rw [(Later.cell (g := wr.heap.size) (o := 2) hT.2 (by simp) (by have := hv'.out.ch.lt; omega)).1]; simp [go_sem]
              clear hO hC hT
              go_wp2_with fail
              refine (waiting_eq g c 1 _ hC'.out (by rw [hL'.out]; rfl)).mono ?_
              rintro e w' ⟨rfl, rfl⟩
              go_wp2_with fail
              go_roundw
              case rel => exact ⟨k + 1, by omega, by go_num, c, hC'.out, hv'.out.kd, hv'.out.sz, .inr ⟨m, hL'.out, rfl, rfl, rfl⟩, hvd, (hv'.out.bw.alloc hv'.out.bw.size _).trans (hT'.out.below (by have := hv'.out.bw.size; simp; omega) (fun x hx e => by omega))⟩
              case measure => simp [intOf]; omega
            · have hd1 : decide (m.at_ ≤ now) = false := decide_eq_false hage
              have hd2 : decide (now < m.at_) = true := decide_eq_true (by omega)
              have hag : ageV now m.at_ = 0 := by unfold ageV; split <;> omega
              go_wp2_with fail
              refine (recv_eq g c c m [] now (0) hnow _ (hv'.out.ch.alloc _) hL'.out (popC_sample c [] hv'.out.kd) hag).mono ?_
              rintro e w3 ⟨v3, rfl, hO, hC, hT⟩
              have hstr := run_str (P := Try.prog) 30 5 Try.underlying30 Try.underlying5 9 Try.underlying9 v3 m.b hO.bs
              have hC' := hide hC
              have hT' := hide hT
              have r2 : w3.cell? ⟨wr.heap.size, 2, none⟩ = some (.int .u64 now) := by
                rw [(Later.cell (g := wr.heap.size) (o := 2) hT.2 (by simp) (by have := hv'.out.ch.lt; omega)).1]; simp [go_sem]
              clear hO hC hT
              go_wp2_with fail
              refine (waiting_eq g c 1 _ hC'.out (by rw [hL'.out]; rfl)).mono ?_
              rintro e w' ⟨rfl, rfl⟩
              go_wp2_with fail
              go_roundw
              case rel => exact ⟨k + 1, by omega, by go_num, c, hC'.out, hv'.out.kd, hv'.out.sz, .inr ⟨m, hL'.out, rfl, rfl, rfl⟩, hvd, (hv'.out.bw.alloc hv'.out.bw.size _).trans (hT'.out.below (by have := hv'.out.bw.size; simp; omega) (fun x hx e => by omega))⟩
              case measure => simp [intOf]; omega
        | false =>
          rw [hrc] at c0
          clear hrc
          by_cases hlen : size < (l.length : Int)
          · have hse : sendC c l now = (c, 1) := if_pos (by rw [hv.sz]; exact hlen)
            have hse' := hide hse
            clear hse
            rcases hv.st with ⟨hL, rfl, rfl, rfl⟩ | ⟨m, hL, rfl, rfl, rfl⟩
            all_goals
              have hL' := hide hL
              clear hL hv
              go_wp2_with fail
              refine (send_eq g c c _ l now 1 hse'.out hnow _ (hv'.out.ch.alloc _) (hbw.out.below (hv'.out.bw.alloc hv'.out.bw.size _)) (fun hl x hx => by have := hnb.out hl x hx; omega)).mono ?_
              rintro e w3 ⟨rfl, hC, hT⟩
              have hC' := hide hC
              have hT' := hide hT
              clear hC hT
              go_wp2_with fail
              go_roundw
              case rel => exact ⟨k + 1, by omega, by go_num, c, hC'.out, hv'.out.kd, hv'.out.sz, hv'.out.st, hvd, (hv'.out.bw.alloc hv'.out.bw.size _).trans (hT'.out.below (by have := hv'.out.bw.size; simp; omega) (fun x hx e => by omega))⟩
              case measure => simp [intOf]; omega
          · have hse : sendC c l now = ({ c with L := [⟨l, now⟩] }, 0) := sendC_sample c l now hv.kd (by rw [hv.sz]; exact hlen)
            have hse' := hide hse
            clear hse
            rcases hv.st with ⟨hL, rfl, rfl, rfl⟩ | ⟨m, hL, rfl, rfl, rfl⟩
            all_goals
              clear hL hv
              go_wp2_with fail
              refine (send_eq g c _ _ l now 0 hse'.out hnow _ (hv'.out.ch.alloc _) (hbw.out.below (hv'.out.bw.alloc hv'.out.bw.size _)) (fun hl x hx => by have := hnb.out hl x hx; omega)).mono ?_
              rintro e w3 ⟨rfl, hC, hT⟩
              have hC' := hide hC
              have hT' := hide hT
              have hgl := hv'.out.ch.lt
              have hb3 : Below w.heap.size w w3 := (hv'.out.bw.alloc hv'.out.bw.size _).trans (hT'.out.below (by have := hv'.out.bw.size; simp; omega) (fun x hx e => by omega))
              have hlr : wr.heap.size < w3.heap.size := by have := hT.size; simp at this; omega
              have e1 : w3.cell? ⟨wr.heap.size, 1, none⟩ = some (.slice B l.length cb) := by rw [(Later.cell (g := wr.heap.size) (o := 1) hT.2 (by simp) (by omega)).1]; simp [go_sem]
              have e2 : w3.cell? ⟨wr.heap.size, 2, none⟩ = some (.int .u64 now) := by rw [(Later.cell (g := wr.heap.size) (o := 2) hT.2 (by simp) (by omega)).1]; simp [go_sem]
              have f1 : ∀ w', Later (fun _ => False) w3.drew w' → w'.cell? ⟨wr.heap.size, 1, none⟩ = some (.slice B l.length cb) := fun w' hl => (Later.cell (a := w3) hl hlr (fun h => h)).1.trans e1
              have f2 : ∀ w', Later (fun _ => False) w3.drew w' → w'.cell? ⟨wr.heap.size, 2, none⟩ = some (.int .u64 now) := fun w' hl => (Later.cell (a := w3) hl hlr (fun h => h)).1.trans e2
              have fs : ∀ w', Later (fun _ => False) w3.drew w' → (convert 30 9 (.slice B l.length cb)).run Try.prog w' = .ok (.string ⟨l.toArray⟩) w' := fun w' hl => run_str (P := Try.prog) 30 5 Try.underlying30 Try.underlying5 9 Try.underlying9 _ l (((hbw.out.below hb3).later0 (w' := w3.drew) (later_drew _)).later0 hl)
              have hb3' := hide hb3
              clear hC hT hgl hb3
              generalize wr.heap.size = hp at *
              go_wp2_with fail
              refine region_plan [(true, 0), (true, 1), (true, 2), (true, 3), (true, 4), (true, 5), (true, 6), (true, 7)] (Later fun _ => False) (later_refl _) (later_trans _) (by kernel_rfl) (by kernel_rfl) (fun _ _ d _ _ h => by cases d <;> exact h) ?_
              repeat
                (first
                  | (show wpPlan _ _ _ _ ((true, _) :: _) _ _
                     refine plan_skip rfl (by rfl) ?_
                     simp only [Act.put, List.setIfInBounds_toArray, List.set_cons_zero, List.set_cons_succ])
                  | (show wpPlan _ _ _ _ ((false, _) :: _) _ _
                     refine plan_skip_eff (later_refl _) rfl (by rfl) ?_
                     simp only [Act.put, List.setIfInBounds_toArray, List.set_cons_zero, List.set_cons_succ])
                  | (show wpPlan _ _ _ _ ((true, _) :: _) _ _
                     refine plan_take (v := ?_) rfl (by rfl) (fun w' hw' => ?_) ?_
                     rotate_left
                     focus
                       go_simp
                       try with_reducible rfl
                       done
                     simp only [Act.put, List.setIfInBounds_toArray, List.set_cons_zero, List.set_cons_succ]))
              refine plan_nil ?_
              go_wp2_with fail
              go_roundw
              case rel => exact ⟨k + 1, by omega, by go_num, _, hC'.out.later (F := fun _ => False) (later_drew _) (fun h => h), hv'.out.kd, hv'.out.sz, .inr ⟨⟨l, now⟩, rfl, rfl, rfl, rfl⟩, hvd, hb3'.out.drew⟩
              case measure => simp [intOf]; omega
      · rcases hv.st with ⟨_, rfl, rfl, rfl⟩ | ⟨m, _, rfl, rfl, rfl⟩
        all_goals
          go_wp2_with fail
          all_goals
            refine (awake12 _).mono ?_
            rintro e w3 ⟨rfl, hb3⟩
            go_wp2_with fail
            go_ret
            exact ⟨rfl, hv.bw.trans (hb3.mono hv.bw.size)⟩
  · have ho : size < 0 ∨ 64 < size := by omega
    have hb := hide (show ¬ ChanOk 0 1 size from fun h => hs ⟨h.1, h.2.1⟩)
    clear hs
    rcases ho with ho | ho
    all_goals
      go_enter Try.func5, Try.ntmps5
      go_wp2_with fail
      refine (new_bad 0 1 size _ hb.out).mono ?_
      rintro e w1 ⟨rfl, rfl⟩
      go_wp2_with fail
      refine (awake12 _).mono ?_
      rintro e w3 ⟨rfl, hb3⟩
      go_wp2_with fail
      go_ret
      exact ⟨rfl, hb3⟩
end Go.Proofs.Ytkcjjogekkldkaa
