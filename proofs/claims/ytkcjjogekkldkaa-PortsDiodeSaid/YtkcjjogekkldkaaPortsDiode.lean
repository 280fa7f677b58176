/- The law PortsDiode walked. -/
import Derived.Test.YtkcjjogekkldkaaPortsActs
import Derived.Laws.BitsLemmas
namespace Go.Proofs.Ytkcjjogekkldkaa
open Go.RowKit

theorem i64_and15 (n : Int) : bits .and .i64 n 15 = n % 16 := by
  have h15 : (BitVec.ofInt 64 15).toNat = 2 ^ 4 - 1 := by decide
  have key : (BitVec.ofInt 64 n &&& BitVec.ofInt 64 15).toNat = (n % ((2 ^ 64 : Nat) : Int)).toNat % 2 ^ 4 := by
    rw [BitVec.toNat_and, BitVec.toNat_ofInt, h15, Nat.and_two_pow_sub_one_eq_mod]
  show IntKind.i64.wrap ((BitVec.ofInt 64 n &&& BitVec.ofInt 64 15).toNat : Nat) = n % 16
  rw [key, IntKind.wrap_i64]
  omega
theorem room (n : Int) : ∃ m : Nat, 1 ≤ m ∧ m ≤ 16 ∧ wrap64 (1 + bits .and .i64 n 15) = (m : Int) := by
  rw [i64_and15]
  refine ⟨(1 + n % 16).toNat, by omega, by omega, ?_⟩
  rw [IntWalk.wrap64_in _ (by omega)]
  omega
theorem diode_send (c1 c2 : Chan) (l : List UInt8) (now : Nat) (h1 : c1.kind = 2) (h2 : c2.kind = 2) (hs : c1.size = c2.size) :
    (sendC c1 l now).2 = (if c2.size < (l.length : Int) then 1 else 0) ∧ (sendC c2 l now).2 = (if c2.size < (l.length : Int) then 1 else 0) := by
  have k0 : ¬ ((2 : Int) = 0) := by decide
  have k1 : ¬ ((2 : Int) = 1) := by decide
  unfold sendC
  rw [h1, h2, hs]
  constructor
  · by_cases h : c2.size < (l.length : Int)
    · rw [if_pos h, if_pos h]
    · rw [if_neg h, if_neg h, if_neg k0, if_neg k1]; split <;> rfl
  · by_cases h : c2.size < (l.length : Int)
    · rw [if_pos h, if_pos h]
    · rw [if_neg h, if_neg h, if_neg k0, if_neg k1]; split <;> rfl

theorem Later.mono {F G : Nat → Prop} {a b : World} (h : Later F a b) (hFG : ∀ k, F k → G k) : Later G a b := ⟨h.1, fun k hk hg => h.2 k hk (fun hf => hg (hFG k hf))⟩
theorem send_diode (g : Nat) (c : Chan) (v : Value) (l : List UInt8) (now : Nat) (r : Int) (hr : (sendC c l now).2 = r) (hnow : now < 18446744073709551616) (w : World) (h : ChanAt w g c) (hb : Bs w v l) (hv : l ≠ [] → ∀ b, v.ownBlock = some b → b ≠ g) (h1 : c.kind = 2) (size : Int) (h2 : c.size = size) :
    Calls Try.prog 15 #[.pointer (some ⟨g, 0, none⟩), v, .int .u64 now] w fun e w' => e = .returned (.int .i64 r) ∧ (∃ c', ChanAt w' g c' ∧ c'.kind = 2 ∧ c'.size = size) ∧ Touch (fun k => k = g) w w' := by
  refine (send_any g c v l now hnow w h hb hv).mono ?_
  rintro e w' ⟨he, hc, ht⟩
  rw [hr] at he
  exact ⟨he, ⟨_, hc, (sendC_same c l now).1.trans h1, (sendC_same c l now).2.1.trans h2⟩, ht⟩

/-- what holds at a round's head -/
structure DiodeInv (w wr : World) (g1 g2 : Nat) (size : Int) : Prop where
  c1 : ∃ c, ChanAt wr g1 c ∧ c.kind = 2 ∧ c.size = size
  c2 : ∃ c, ChanAt wr g2 c ∧ c.kind = 2 ∧ c.size = size
  d : w.heap.size ≤ g1 ∧ g1 < g2
  b : Below w.heap.size w wr

set_option maxRecDepth 100000 in
set_option maxHeartbeats 2000000 in
theorem portsDiode_any (size one two : Int) (A : Option Addr) (n c : Nat) (G : Nat → Act1) (w : World) (ha : ActsAt w A n G) :
    Calls Try.prog 3 #[.agg #[.int .i64 size, .int .i64 one, .int .i64 two, .slice A n c]] w fun e w' => e = .returned (.bool true) ∧ Below w.heap.size w w' := by
  obtain ⟨m1, hm1, hm2, hr1⟩ := room one
  obtain ⟨m2, hm3, hm4, hr2⟩ := room two
  by_cases hs : 0 ≤ size ∧ size ≤ 64
  · go_enter Try.func3, Try.ntmps3
    go_wp2_with fail
    go_quiet (fail)
    go_wp2_with fail
    have hb0 : Below w.heap.size w ((w.alloc (Obj.cells #[Value.int IntKind.i64 size, Value.int IntKind.i64 one, Value.int IntKind.i64 two, Value.slice A n c] 24)).drewN nq) := (Q.drewN (Q.refl _) nq).below _ |> ((Below.refl _ _).alloc (Nat.le_refl _) _).trans
    generalize (w.alloc (Obj.cells #[Value.int IntKind.i64 size, Value.int IntKind.i64 one, Value.int IntKind.i64 two, Value.slice A n c] 24)).drewN nq = w0 at *
    have hb0' := hide hb0
    have hs' := hide hs
    have ha' := hide ha
    clear hb0 ha
    refine (new_ok 2 m1 size _ (by unfold ChanOk; omega)).mono ?_
    rintro e w1 ⟨g1, rfl, hg1, hC1, hbb1⟩
    have hC1' := hide hC1
    have hbb1' := hide hbb1
    have hg1' := hide hg1
    clear hC1 hbb1 hg1
    go_wp2_with fail
    refine (new_ok 2 m2 size _ (by unfold ChanOk; omega)).mono ?_
    rintro e w2 ⟨g2, rfl, hg2, hC2, hbb2⟩
    have hinv : DiodeInv w w2 g1 g2 size := ⟨⟨_, hC1'.out.below hbb2, rfl, rfl⟩, ⟨_, hC2, rfl, rfl⟩, by have := hC1'.out.lt; have := hg1'.out; have := hb0'.out.size; omega,
      (hb0'.out.trans (hbb1'.out.mono hb0'.out.size)).trans (hbb2.mono (Nat.le_trans hb0'.out.size hbb1'.out.size))⟩
    have hinv' := hide hinv
    clear hC1' hbb1' hg1' hg2 hC2 hbb2 hinv hb0'
    go_wp2_with fail
    go_loopw [11] (fun i wr => ∃ k : Nat, k ≤ n ∧ i = .int .i64 k ∧ DiodeInv w wr g1 g2 size) (fun i _ => n - (intOf i).toNat)
    case atStart => exact ⟨0, Nat.zero_le _, rfl, hinv'.out⟩
    case round =>
      obtain ⟨k, hk, rfl, hv⟩ := hrel
      by_cases hlt : k < n ∧ k < 80
      · obtain ⟨hlt, h80⟩ := hlt
        obtain ⟨b, off, rfl, hA0⟩ := ha'.out (by omega)
        have hA := hA0.below hv.b
        have hbl := hA0.lt
        have hbr := hA.lt
        have h80I : (k : Int) < 80 := by omega
        obtain ⟨⟨c1, hC1, hk1, hz1⟩, ⟨c2, hC2, hk2, hz2⟩, hd, hb⟩ := hv
        have hnow := hA.now k hlt
        have hbs := hide (hA.bs k hlt)
        cases hrc : (G k).rcv with
        | true =>
          have c0 := hA.c0 k hlt
          have c2' := hA.c2 k hlt
          rw [hrc] at c0
          have hC1' := hide hC1
          have hC2' := hide hC2
          have e1 := hide (And.intro hk1 hz1)
          have e2 := hide (And.intro hk2 hz2)
          clear hA hA0 ha' hrc hC1 hC2 hk1 hz1 hk2 hz2
          generalize (G k).now = now at *
          have hsm := hide (recvC_same c1 now)
          go_wp2_with fail
          refine (recv_any g1 c1 now hnow _ hC1'.out).mono ?_
          rintro e w3 ⟨v3, rfl, hO, hC3, hT⟩
          have hT' := hide hT
          have hC3' := hide hC3
          clear hO hT hC3
          go_wp2_with fail
          go_roundw
          case rel => exact ⟨k + 1, by omega, by go_num, ⟨_, hC3'.out, hsm.out.1.trans e1.out.1, hsm.out.2.1.trans e1.out.2⟩, ⟨c2, hC2'.out.touch hT'.out (by omega), e2.out.1, e2.out.2⟩, hd, hb.trans (hT'.out.below (Nat.le_of_lt_succ (Nat.lt_succ_of_le hb.size)) (fun x hx e => by omega))⟩
          case measure => simp [intOf]; omega
        | false =>
          have c0 := hA.c0 k hlt
          have e1 := hA.c1 k hlt
          have e2 := hA.c2 k hlt
          rw [hrc] at c0
          obtain ⟨B, cb, hvl, hcb1, hcb2, _⟩ := (hA.bs k hlt).open_
          have hbw := hide (hA0.bs k hlt)
          rw [hvl] at e1 hbw
          have hnb := hide (hbw.out.lt)
          have hb1 : ¬ (b = g1 ∨ b = g2) := by have := hA0.lt; omega
          have f1 : ∀ w', Later (fun x => x = g1 ∨ x = g2) wr.drew w' → w'.cell? ⟨b, off + k*3 + 1, none⟩ = some (.slice B (G k).l.length cb) := fun w' hl => (Later.cell (a := wr) hl hbr hb1).1.trans e1
          have f2 : ∀ w', Later (fun x => x = g1 ∨ x = g2) wr.drew w' → w'.cell? ⟨b, off + k*3 + 2, none⟩ = some (.int .u64 (G k).now) := fun w' hl => (Later.cell (a := wr) hl hbr hb1).1.trans e2
          have hds := diode_send c1 c2 (G k).l (G k).now hk1 hk2 (hz1.trans hz2.symm)
          rw [hz2] at hds
          have hds' := hide hds
          have hC1' := hide hC1
          have hC2' := hide hC2
          have q1 := hide (And.intro hk1 hz1)
          have q2 := hide (And.intro hk2 hz2)
          have hb0' := hide hb
          have hb1' := hide hb1
          clear hA hA0 ha' hrc hC1 hC2 hk1 hz1 hk2 hz2 hds hvl hbs hb hb1
          generalize (G k).now = now at *
          generalize (G k).l = l at *
          by_cases hlen : size < (l.length : Int)
          · have hle : decide ((l.length : Int) ≤ size) = false := decide_eq_false (by omega)
            rw [if_pos hlen] at hds'
            go_wp2_with fail
            refine region_plan [(true, 0), (true, 1), (true, 2), (true, 3), (true, 4), (true, 5), (true, 6), (true, 7), (true, 8), (true, 9), (true, 10), (true, 12), (true, 13), (true, 14), (true, 15), (true, 16), (true, 17), (true, 18), (true, 19), (true, 20), (true, 21), (true, 22), (false, 11), (false, 23), (true, 24), (true, 25)] (Later (fun x => x = g1 ∨ x = g2)) (later_refl _) (later_trans _) (by kernel_rfl) (by kernel_rfl) (fun _ _ d _ _ h => by cases d <;> exact h) ?_
            repeat
              (first
                | (show wpPlan _ _ _ _ ((true, _) :: _) _ _
                   refine plan_skip rfl (by rfl) ?_
                   simp only [Act.put, List.setIfInBounds_toArray, List.set_cons_zero, List.set_cons_succ])
                | (show wpPlan _ _ _ _ ((false, _) :: _) _ _
                   refine plan_skip_eff (later_refl _) rfl (by rfl) ?_
                   simp only [Act.put, List.setIfInBounds_toArray, List.set_cons_zero, List.set_cons_succ])
                | (show wpPlan _ _ _ _ ((true, _) :: _) _ _
                   refine plan_take (v := ?_) rfl (by rfl) (fun w' hw' => ?_) ?_
                   rotate_left
                   focus
                     go_simp
                     try with_reducible rfl
                     done
                   simp only [Act.put, List.setIfInBounds_toArray, List.set_cons_zero, List.set_cons_succ]))
            have hbd : Below w.heap.size w wr.drew := hb0'.out.drew
            have hC1d : ChanAt wr.drew g1 c1 := hC1'.out.later (F := fun _ => False) (later_drew _) (fun h => h)
            have hC2d : ChanAt wr.drew g2 c2 := hC2'.out.later (F := fun _ => False) (later_drew _) (fun h => h)
            have hbd' := hide hbd
            have hC1d' := hide hC1d
            have hC2d' := hide hC2d
            clear hC1d hC2d hbd
            generalize wr.drew = wd at *
            refine plan_eff rfl (by rfl) (fun K hK => ?_)
            go_wp2_with fail
            refine (send_diode g1 c1 _ l now 1 hds'.out.1 hnow _ hC1d'.out (hbw.out.below hbd'.out) (fun hl x hx => by have := hnb.out hl x hx; omega) q1.out.1 size q1.out.2).mono ?_
            rintro e w4 ⟨rfl, hC4, hT4⟩
            have hT4' := hide hT4
            have hC4' := hide hC4
            clear hC4 hT4
            refine hK _ _ (hT4'.out.2.mono fun x hx => .inl hx) ?_
            clear hK K
            try simp only [Act.put, List.setIfInBounds_toArray, List.set_cons_zero, List.set_cons_succ]
            repeat
              (first
                | (show wpPlan _ _ _ _ ((true, _) :: _) _ _
                   refine plan_skip rfl (by rfl) ?_
                   simp only [Act.put, List.setIfInBounds_toArray, List.set_cons_zero, List.set_cons_succ])
                | (show wpPlan _ _ _ _ ((false, _) :: _) _ _
                   refine plan_skip_eff (later_refl _) rfl (by rfl) ?_
                   simp only [Act.put, List.setIfInBounds_toArray, List.set_cons_zero, List.set_cons_succ])
                | (show wpPlan _ _ _ _ ((true, _) :: _) _ _
                   refine plan_take (v := ?_) rfl (by rfl) (fun w' hw' => ?_) ?_
                   rotate_left
                   focus
                     go_simp
                     try with_reducible rfl
                     done
                   simp only [Act.put, List.setIfInBounds_toArray, List.set_cons_zero, List.set_cons_succ]))
            have hb4 := hide (hbd'.out.trans (hT4'.out.below hbd'.out.size (fun x hx e => by omega)))
            refine plan_eff rfl (by rfl) (fun K hK => ?_)
            go_wp2_with fail
            refine (send_diode g2 c2 _ l now 1 hds'.out.2 hnow _ (hC2d'.out.touch hT4'.out (by omega)) (hbw.out.below hb4.out) (fun hl x hx => by have := hnb.out hl x hx; omega) q2.out.1 size q2.out.2).mono ?_
            rintro e w5 ⟨rfl, hC5, hT5⟩
            have hT5' := hide hT5
            have hC5' := hide hC5
            clear hC5 hT5
            refine hK _ _ (hT5'.out.2.mono fun x hx => .inr hx) ?_
            clear hK K
            try simp only [Act.put, List.setIfInBounds_toArray, List.set_cons_zero, List.set_cons_succ]
            repeat
              (first
                | (show wpPlan _ _ _ _ ((true, _) :: _) _ _
                   refine plan_skip rfl (by rfl) ?_
                   simp only [Act.put, List.setIfInBounds_toArray, List.set_cons_zero, List.set_cons_succ])
                | (show wpPlan _ _ _ _ ((false, _) :: _) _ _
                   refine plan_skip_eff (later_refl _) rfl (by rfl) ?_
                   simp only [Act.put, List.setIfInBounds_toArray, List.set_cons_zero, List.set_cons_succ])
                | (show wpPlan _ _ _ _ ((true, _) :: _) _ _
                   refine plan_take (v := ?_) rfl (by rfl) (fun w' hw' => ?_) ?_
                   rotate_left
                   focus
                     go_simp
                     try with_reducible rfl
                     done
                   simp only [Act.put, List.setIfInBounds_toArray, List.set_cons_zero, List.set_cons_succ]))
            refine plan_nil ?_
            have hf5 := f1 w5 (later_trans _ _ _ _ (hT4'.out.2.mono fun x hx => .inl hx) (hT5'.out.2.mono fun x hx => .inr hx))
            go_wp2_with fail
            go_roundw
            case rel =>
              obtain ⟨c4, hc4, hk4, hs4⟩ := hC4'.out
              exact ⟨k + 1, by omega, by go_num, ⟨c4, hc4.touch hT5'.out (by omega), hk4, hs4⟩, hC5'.out, hd, hb4.out.trans (hT5'.out.below hb4.out.size (fun x hx e => by omega))⟩
            case measure => simp [intOf]; omega
          · have hle : decide ((l.length : Int) ≤ size) = true := decide_eq_true (by omega)
            rw [if_neg hlen] at hds'
            go_wp2_with fail
            refine region_plan [(true, 0), (true, 1), (true, 2), (true, 3), (true, 4), (true, 5), (true, 6), (true, 7), (true, 8), (true, 9), (true, 10), (true, 12), (true, 13), (true, 14), (true, 15), (true, 16), (true, 17), (true, 18), (true, 19), (true, 20), (true, 21), (true, 22), (false, 11), (false, 23), (true, 24), (true, 25)] (Later (fun x => x = g1 ∨ x = g2)) (later_refl _) (later_trans _) (by kernel_rfl) (by kernel_rfl) (fun _ _ d _ _ h => by cases d <;> exact h) ?_
            repeat
              (first
                | (show wpPlan _ _ _ _ ((true, _) :: _) _ _
                   refine plan_skip rfl (by rfl) ?_
                   simp only [Act.put, List.setIfInBounds_toArray, List.set_cons_zero, List.set_cons_succ])
                | (show wpPlan _ _ _ _ ((false, _) :: _) _ _
                   refine plan_skip_eff (later_refl _) rfl (by rfl) ?_
                   simp only [Act.put, List.setIfInBounds_toArray, List.set_cons_zero, List.set_cons_succ])
                | (show wpPlan _ _ _ _ ((true, _) :: _) _ _
                   refine plan_take (v := ?_) rfl (by rfl) (fun w' hw' => ?_) ?_
                   rotate_left
                   focus
                     go_simp
                     try with_reducible rfl
                     done
                   simp only [Act.put, List.setIfInBounds_toArray, List.set_cons_zero, List.set_cons_succ]))
            have hbd : Below w.heap.size w wr.drew := hb0'.out.drew
            have hC1d : ChanAt wr.drew g1 c1 := hC1'.out.later (F := fun _ => False) (later_drew _) (fun h => h)
            have hC2d : ChanAt wr.drew g2 c2 := hC2'.out.later (F := fun _ => False) (later_drew _) (fun h => h)
            have hbd' := hide hbd
            have hC1d' := hide hC1d
            have hC2d' := hide hC2d
            clear hC1d hC2d hbd
            generalize wr.drew = wd at *
            refine plan_eff rfl (by rfl) (fun K hK => ?_)
            go_wp2_with fail
            refine (send_diode g1 c1 _ l now 0 hds'.out.1 hnow _ hC1d'.out (hbw.out.below hbd'.out) (fun hl x hx => by have := hnb.out hl x hx; omega) q1.out.1 size q1.out.2).mono ?_
            rintro e w4 ⟨rfl, hC4, hT4⟩
            have hT4' := hide hT4
            have hC4' := hide hC4
            clear hC4 hT4
            refine hK _ _ (hT4'.out.2.mono fun x hx => .inl hx) ?_
            clear hK K
            try simp only [Act.put, List.setIfInBounds_toArray, List.set_cons_zero, List.set_cons_succ]
            repeat
              (first
                | (show wpPlan _ _ _ _ ((true, _) :: _) _ _
                   refine plan_skip rfl (by rfl) ?_
                   simp only [Act.put, List.setIfInBounds_toArray, List.set_cons_zero, List.set_cons_succ])
                | (show wpPlan _ _ _ _ ((false, _) :: _) _ _
                   refine plan_skip_eff (later_refl _) rfl (by rfl) ?_
                   simp only [Act.put, List.setIfInBounds_toArray, List.set_cons_zero, List.set_cons_succ])
                | (show wpPlan _ _ _ _ ((true, _) :: _) _ _
                   refine plan_take (v := ?_) rfl (by rfl) (fun w' hw' => ?_) ?_
                   rotate_left
                   focus
                     go_simp
                     try with_reducible rfl
                     done
                   simp only [Act.put, List.setIfInBounds_toArray, List.set_cons_zero, List.set_cons_succ]))
            have hb4 := hide (hbd'.out.trans (hT4'.out.below hbd'.out.size (fun x hx e => by omega)))
            refine plan_eff rfl (by rfl) (fun K hK => ?_)
            go_wp2_with fail
            refine (send_diode g2 c2 _ l now 0 hds'.out.2 hnow _ (hC2d'.out.touch hT4'.out (by omega)) (hbw.out.below hb4.out) (fun hl x hx => by have := hnb.out hl x hx; omega) q2.out.1 size q2.out.2).mono ?_
            rintro e w5 ⟨rfl, hC5, hT5⟩
            have hT5' := hide hT5
            have hC5' := hide hC5
            clear hC5 hT5
            refine hK _ _ (hT5'.out.2.mono fun x hx => .inr hx) ?_
            clear hK K
            try simp only [Act.put, List.setIfInBounds_toArray, List.set_cons_zero, List.set_cons_succ]
            repeat
              (first
                | (show wpPlan _ _ _ _ ((true, _) :: _) _ _
                   refine plan_skip rfl (by rfl) ?_
                   simp only [Act.put, List.setIfInBounds_toArray, List.set_cons_zero, List.set_cons_succ])
                | (show wpPlan _ _ _ _ ((false, _) :: _) _ _
                   refine plan_skip_eff (later_refl _) rfl (by rfl) ?_
                   simp only [Act.put, List.setIfInBounds_toArray, List.set_cons_zero, List.set_cons_succ])
                | (show wpPlan _ _ _ _ ((true, _) :: _) _ _
                   refine plan_take (v := ?_) rfl (by rfl) (fun w' hw' => ?_) ?_
                   rotate_left
                   focus
                     go_simp
                     try with_reducible rfl
                     done
                   simp only [Act.put, List.setIfInBounds_toArray, List.set_cons_zero, List.set_cons_succ]))
            refine plan_nil ?_
            have hf5 := f1 w5 (later_trans _ _ _ _ (hT4'.out.2.mono fun x hx => .inl hx) (hT5'.out.2.mono fun x hx => .inr hx))
            go_wp2_with fail
            go_roundw
            case rel =>
              obtain ⟨c4, hc4, hk4, hs4⟩ := hC4'.out
              exact ⟨k + 1, by omega, by go_num, ⟨c4, hc4.touch hT5'.out (by omega), hk4, hs4⟩, hC5'.out, hd, hb4.out.trans (hT5'.out.below hb4.out.size (fun x hx e => by omega))⟩
            case measure => simp [intOf]; omega
      · go_wp2_with fail
        all_goals
          refine (awake12 _).mono ?_
          rintro e w3 ⟨rfl, hb3⟩
          go_wp2_with fail
          go_ret
          exact ⟨rfl, hv.b.trans (hb3.mono hv.b.size)⟩
  · have hbad : ∀ m : Int, ¬ ChanOk 2 m size := fun m h => hs ⟨h.1, h.2.1⟩
    have ho : size < 0 ∨ 64 < size := by omega
    clear hs
    have hb := hide hbad
    clear hbad
    rcases ho with ho | ho
    all_goals
      go_enter Try.func3, Try.ntmps3
      go_wp2_with fail
      go_quiet (fail)
      go_wp2_with fail
      refine (new_bad 2 m1 size _ (hb.out _)).mono ?_
      rintro e w1 ⟨rfl, rfl⟩
      go_wp2_with fail
      refine (new_bad 2 m2 size _ (hb.out _)).mono ?_
      rintro e w1 ⟨rfl, rfl⟩
      go_wp2_with fail
      refine (awake12 _).mono ?_
      rintro e w3 ⟨rfl, hb3⟩
      go_wp2_with fail
      go_ret
      exact ⟨rfl, ((Below.refl _ _).alloc (Nat.le_refl _) _).trans (((Q.drewN (Q.refl _) nq).below _).trans (hb3.mono (by simp)))⟩
end Go.Proofs.Ytkcjjogekkldkaa
