/- code.jumps, Check, pvm.ill walked. -/
import Derived.Test.YtmgcbiejnifhpaaPvmFormed
namespace Go.Proofs.Ytmgcbiejnifhpaa
open Go.RowKit

set_option maxRecDepth 100000 in
theorem jumps_any (i : Ins) (w : World) : Calls Try.prog 25 #[i.v] w fun e w' => e = .returned (.bool i.jumps) ∧ Below w.heap.size w w' := by
  obtain ⟨o, a, b, c⟩ := i
  obtain ⟨F, hF⟩ : ∃ F : Bool, F = Ins.jumps ⟨o, a, b, c⟩ := ⟨_, rfl⟩
  show Calls _ _ #[.agg #[.int .u8 (o : Nat), .int .u8 (a : Nat), .int .u8 (b : Nat), .int .u8 (c : Nat)]] w fun e w' => e = .returned (.bool (Ins.jumps ⟨o, a, b, c⟩)) ∧ _
  rw [← hF]
  have hF' := hide hF
  clear hF
  by_cases h15 : o = 15
  · subst h15
    show Calls _ _ #[.agg #[.int .u8 15, .int .u8 (a : Nat), .int .u8 (b : Nat), .int .u8 (c : Nat)]] w _
    go_enter Try.func25, Try.ntmps25
    go_wp2_with fail
    go_ret
    exact ⟨ret_bool (by rw [hF'.out]; rfl), (Below.refl _ _).alloc (Nat.le_refl _) _⟩
  · have x1 : ((o : Int) == 15) = false := by simp; omega
    have x2 : (o == 15) = false := by simp; omega
    have x3 : decide (o = 15) = false := decide_eq_false h15
    by_cases h16 : o = 16
    · subst h16
      clear x1 x2 x3 h15
      show Calls _ _ #[.agg #[.int .u8 16, .int .u8 (a : Nat), .int .u8 (b : Nat), .int .u8 (c : Nat)]] w _
      go_enter Try.func25, Try.ntmps25
      go_wp2_with fail
      go_ret
      exact ⟨ret_bool (by rw [hF'.out]; rfl), (Below.refl _ _).alloc (Nat.le_refl _) _⟩
    · have y1 : ((o : Int) == 16) = false := by simp; omega
      have y2 : (o == 16) = false := by simp; omega
      have y3 : decide (o = 16) = false := decide_eq_false h16
      go_enter Try.func25, Try.ntmps25
      go_wp2_with fail
      go_ret
      exact ⟨ret_bool (by rw [hF'.out]; unfold Ins.jumps; dsimp only; first | exact decide_eq_decide.2 (by omega) | exact (decide_eq_false (by omega)).symm), (Below.refl _ _).alloc (Nat.le_refl _) _⟩
/-- instructions as cells -/
def insV (l : List Ins) : List Value := l.flatMap fun i => [.int .u8 (i.o : Nat), .int .u8 (i.a : Nat), .int .u8 (i.b : Nat), .int .u8 (i.c : Nat)]
theorem insV_get : ∀ (l : List Ins) (k : Nat) (h : k < l.length), (insV l)[4 * k]? = some (.int .u8 (l[k].o : Nat)) ∧ (insV l)[4 * k + 1]? = some (.int .u8 (l[k].a : Nat)) ∧ (insV l)[4 * k + 2]? = some (.int .u8 (l[k].b : Nat)) ∧ (insV l)[4 * k + 3]? = some (.int .u8 (l[k].c : Nat))
  | [], k, h => absurd h (Nat.not_lt_zero _)
  | i :: l, 0, _ => by simp [insV]
  | i :: l, k + 1, h => by
    have ih := insV_get l k (by simpa using h)
    have e : insV (i :: l) = .int .u8 (i.o : Nat) :: .int .u8 (i.a : Nat) :: .int .u8 (i.b : Nat) :: .int .u8 (i.c : Nat) :: insV l := by simp [insV]
    rw [e, show 4 * (k + 1) = 4 * k + 1 + 1 + 1 + 1 by omega, show 4 * k + 1 + 1 + 1 + 1 + 1 = (4 * k + 1) + 1 + 1 + 1 + 1 by omega, show 4 * k + 1 + 1 + 1 + 1 + 2 = (4 * k + 2) + 1 + 1 + 1 + 1 by omega, show 4 * k + 1 + 1 + 1 + 1 + 3 = (4 * k + 3) + 1 + 1 + 1 + 1 by omega]
    simp only [List.getElem?_cons_succ, List.getElem_cons_succ]
    exact ih
def Inss (w : World) (v : Value) (l : List Ins) : Prop := Sl w 4 v l.length (insV l)
/-- an instruction that may stand in a program of n -/
def Ins.fit (n : Nat) (i : Ins) : Prop := i.formed = true ∧ (i.jumps = true → i.num < n)
structure Prog (l : List Ins) : Prop where
  pos : 0 < l.length
  le : l.length ≤ 128
  fit : ∀ k (h : k < l.length), (l[k]).fit l.length
  last : ∀ x, l[l.length - 1]? = some x → x.o = 0 ∨ x.o = 15
def ChkPost (w : World) (l : List Ins) (e : Ending) (w' : World) : Prop := Below w.heap.size w w' ∧ ((Prog l ∧ e = .returned .nilIface) ∨ (¬ Prog l ∧ ∃ g, e = .returned (.iface 72 (.pointer (some ⟨g, 0, none⟩)))))
set_option maxRecDepth 100000 in
set_option maxHeartbeats 4000000 in
theorem check_any (v : Value) (l : List Ins) (ok : ∀ i ∈ l, i.Ok) (w : World) (h : Inss w v l) : Calls Try.prog 14 #[v] w (ChkPost w l) := by
  obtain ⟨A, c, rfl, hn, hm, _, hcell⟩ := h
  have hcell' := hide hcell
  have ok' := hide ok
  clear hcell ok
  unfold maxLen at hm
  by_cases h0 : l.length = 0
  · have e1 : ((l.length : Int) == 0) = true := by simp [h0]
    have e2 : (l.length == 0) = true := by simp [h0]
    go_enter Try.func14, Try.ntmps14
    go_wp2_with fail
    refine (newFault_any (1) (0) (by decide) _).mono ?_
    rintro e wf ⟨g, rfl, _, _, _, _, _, hbf⟩
    have hbz := hide ((Below.refl w.heap.size w).trans (hbf.mono (Below.refl w.heap.size w).size))
    clear hbf
    go_wp2_with fail
    go_ret
    exact ⟨hbz.out, .inr ⟨fun p => by have := p.pos; omega, g, rfl⟩⟩
  by_cases h128 : 128 < l.length
  · have e1 : ((l.length : Int) == 0) = false := beq_eq_false_iff_ne.2 (by omega)
    have e2 : (l.length == 0) = false := beq_eq_false_iff_ne.2 (by omega)
    have e3 : decide ((128 : Int) < (l.length : Int)) = true := decide_eq_true (by omega)
    go_enter Try.func14, Try.ntmps14
    go_wp2_with fail
    refine (newFault_any (1) (0) (by decide) _).mono ?_
    rintro e wf ⟨g, rfl, _, _, _, _, _, hbf⟩
    have hbz := hide ((Below.refl w.heap.size w).trans (hbf.mono (Below.refl w.heap.size w).size))
    clear hbf
    go_wp2_with fail
    go_ret
    exact ⟨hbz.out, .inr ⟨fun p => by have := p.le; omega, g, rfl⟩⟩
  have e1 : ((l.length : Int) == 0) = false := beq_eq_false_iff_ne.2 (by omega)
  have e2 : (l.length == 0) = false := beq_eq_false_iff_ne.2 (by omega)
  have e3 : decide ((128 : Int) < (l.length : Int)) = false := decide_eq_false (by omega)
  obtain ⟨b, off, rfl, hb, hcell⟩ := hcell'.out (by omega)
  have hc' := hide hcell
  clear hcell hcell'
  have hr : ∀ k (hk : k < l.length) (w' : World), Below w.heap.size w w' → w'.cell? ⟨b, off + k*4, none⟩ = some (.int .u8 ((l[k]).o : Nat)) ∧ w'.cell? ⟨b, off + k*4 + 1, none⟩ = some (.int .u8 ((l[k]).a : Nat)) ∧ w'.cell? ⟨b, off + k*4 + 2, none⟩ = some (.int .u8 ((l[k]).b : Nat)) ∧ w'.cell? ⟨b, off + k*4 + 3, none⟩ = some (.int .u8 ((l[k]).c : Nat)) := by
    intro k hk w' hbw
    obtain ⟨g0, g1, g2, g3⟩ := insV_get l k hk
    have t := fun o u (hu : (insV l)[4 * k + o]? = some u) => by
      have := hc'.out _ _ hu
      rw [show off + (4 * k + o) = off + k * 4 + o by omega] at this
      exact (hbw.cell (p := ⟨b, off + k * 4 + o, none⟩) hb).trans this
    exact ⟨t 0 _ g0, t 1 _ g1, t 2 _ g2, t 3 _ g3⟩
  have hr' := hide hr
  clear hr
  go_enter Try.func14, Try.ntmps14
  go_wp2_with fail
  go_loopw [18] (fun i wr => ∃ k : Nat, k ≤ l.length ∧ i = .int .i64 (k : Nat) ∧ (∀ m (hm : m < l.length), m < k → (l[m]).fit l.length) ∧ Below w.heap.size w wr) (fun i _ => l.length - (intOf i).toNat)
  case atStart => exact ⟨0, by omega, rfl, fun m _ h => absurd h (Nat.not_lt_zero _), Below.refl _ _⟩
  case round =>
    obtain ⟨k, hk, rfl, hfit, hb1⟩ := hrel
    have hfit' := hide hfit
    have hb1' := hide hb1
    have hs1 := hb1.size
    clear hfit hb1
    by_cases hlt : k < l.length
    · obtain ⟨x0, x1, x2, x3⟩ := hr'.out k hlt wr hb1'.out
      have hI := hide (ok'.out _ (List.getElem_mem hlt))
      have hltI : (k : Int) < (l.length : Int) := by omega
      have hbl : b < wr.heap.size := by omega
      obtain ⟨i, hi⟩ : ∃ i, i = l[k] := ⟨_, rfl⟩
      rw [← hi] at x0 x1 x2 x3 hI
      have hi' := hide hi
      clear hi
      go_upto_region 6 with (fail)
      have hB := IBox.new wr 56 (i.o : Nat) (i.a : Nat) (i.b : Nat) (i.c : Nat)
      have hbA : Below wr.heap.size wr (wr.alloc (.cells #[.int .u8 (i.o : Nat), .int .u8 (i.a : Nat), .int .u8 (i.b : Nat), .int .u8 (i.c : Nat)] 56)) := (Below.refl _ _).alloc (Nat.le_refl _) _
      generalize wr.alloc (.cells #[.int .u8 (i.o : Nat), .int .u8 (i.a : Nat), .int .u8 (i.b : Nat), .int .u8 (i.c : Nat)] 56) = wa at *
      generalize wr.heap.size = pb at *
      have hB' := hide hB
      have hb2 := hide (hb1'.out.trans (hbA.mono hs1))
      have y0 := hB.c0
      have y1 := hB.c1
      have y2 := hB.c2
      have y3 := hB.c3
      clear x0 x1 x2 x3 hB hbA hb1'
      go_wp2_with fail
      refine (formed_any i hI.out wa).mono ?_
      rintro e w2 ⟨rfl, hb⟩
      have hb3 := hide (hb2.out.trans (hb.mono hb2.out.size))
      have hB2 := hide (hB'.out.below hb)
      clear y0 y1 y2 y3 hb hB' hb2
      cases hf : i.formed
      · have hf' := hide hf
        clear hf
        go_wp2_with fail
        refine (newFault_any 3 (k : Nat) (by decide) _).mono ?_
        rintro e wf ⟨g, rfl, _, _, _, _, _, hbf⟩
        have hbz := hide (hb3.out.trans (hbf.mono hb3.out.size))
        clear hbf
        go_wp2_with fail
        go_ret
        exact ⟨hbz.out, .inr ⟨(fun p => by have := (p.fit k hlt).1; rw [← hi'.out, hf'.out] at this; cases this), g, rfl⟩⟩
      · have hf' := hide hf
        clear hf
        have y0 := hB2.out.c0
        have y1 := hB2.out.c1
        have y2 := hB2.out.c2
        have y3 := hB2.out.c3
        go_wp2_with fail
        refine (jumps_any i w2).mono ?_
        rintro e w3 ⟨rfl, hb⟩
        have hb4 := hide (hb3.out.trans (hb.mono hb3.out.size))
        have hB3 := hide (hB2.out.below hb)
        clear y0 y1 y2 y3 hb hB2 hb3
        cases hj : i.jumps
        · have hj' := hide hj
          clear hj
          have hkk := hide (show ∀ m (hm : m < l.length), m < k + 1 → (l[m]).fit l.length by
            intro m hm h
            by_cases e : m = k
            · subst e; rw [← hi'.out]; exact ⟨hf'.out, fun h => by rw [hj'.out] at h; cases h⟩
            · exact hfit'.out m hm (by omega))
          go_wp2_with fail
          go_roundw
          case rel => exact ⟨k + 1, by omega, by go_num, hkk.out, hb4.out⟩
          case measure => simp [intOf]; omega
        · have hj' := hide hj
          clear hj
          have y0 := hB3.out.c0
          have y1 := hB3.out.c1
          have y2 := hB3.out.c2
          have y3 := hB3.out.c3
          go_wp2_with fail
          refine (number_any i hI.out w3).mono ?_
          rintro e w4 ⟨rfl, hb⟩
          have hb5 := hide (hb4.out.trans (hb.mono hb4.out.size))
          clear y0 y1 y2 y3 hb hB3 hb4
          obtain ⟨N, hN⟩ : ∃ N : Int, N = i.num := ⟨_, rfl⟩
          rw [← hN]
          have hN' := hide hN
          clear hN
          by_cases hge : (l.length : Int) ≤ N
          · have z1 : decide ((l.length : Int) ≤ N) = true := decide_eq_true hge
            go_wp2_with fail
            refine (newFault_any 4 (k : Nat) (by decide) _).mono ?_
            rintro e wf ⟨g, rfl, _, _, _, _, _, hbf⟩
            have hbz := hide (hb5.out.trans (hbf.mono hb5.out.size))
            clear hbf
            go_wp2_with fail
            go_ret
            exact ⟨hbz.out, .inr ⟨fun p => by have := (p.fit k hlt).2; rw [← hi'.out, ← hN'.out] at this; have := this hj'.out; omega, g, rfl⟩⟩
          · have z1 : decide ((l.length : Int) ≤ N) = false := decide_eq_false hge
            have hkk := hide (show ∀ m (hm : m < l.length), m < k + 1 → (l[m]).fit l.length by
              intro m hm h
              by_cases e : m = k
              · subst e; rw [← hi'.out]; exact ⟨hf'.out, fun _ => by rw [← hN'.out]; omega⟩
              · exact hfit'.out m hm (by omega))
            go_wp2_with fail
            go_roundw
            case rel => exact ⟨k + 1, by omega, by go_num, hkk.out, hb5.out⟩
            case measure => simp [intOf]; omega
    · obtain rfl : l.length = k := by omega
      have hlm : l.length - 1 < l.length := by omega
      obtain ⟨x0, _, _, _⟩ := hr'.out (l.length - 1) hlm wr hb1'.out
      obtain ⟨i, hi⟩ : ∃ i, i = l[l.length - 1] := ⟨_, rfl⟩
      rw [← hi] at x0
      have hi' := hide hi
      have hlast := hide (show l[l.length - 1]? = some i by rw [hi]; exact List.getElem?_eq_getElem hlm)
      have hsub : ((l.length : Int) - 1) = ((l.length - 1 : Nat) : Int) := by omega
      have hltI : ((l.length - 1 : Nat) : Int) < (l.length : Int) := by omega
      have hbl : b < wr.heap.size := by omega
      clear hi
      go_upto_region 13 with (fail)
      by_cases ho : i.o = 0
      · have z1 : ((i.o : Int) == 0) = true := by rw [ho]; rfl
        have z2 : (i.o == 0) = true := by rw [ho]; rfl
        have z3 : ((i.o : Int) != 0) = false := by rw [ho]; rfl
        have z4 : (i.o != 0) = false := by rw [ho]; rfl
        have ho' := hide ho
        clear ho
        go_wp2_with fail
        go_ret
        exact ⟨hb1'.out, .inl ⟨⟨by omega, by omega, fun m hm => hfit'.out m hm hm, fun x hx => by rw [hlast.out] at hx; cases hx; exact .inl ho'.out⟩, rfl⟩⟩
      · have z1 : ((i.o : Int) == 0) = false := beq_eq_false_iff_ne.2 (by omega)
        have z2 : (i.o == 0) = false := beq_eq_false_iff_ne.2 ho
        have z3 : ((i.o : Int) != 0) = true := by simp [bne, z1]
        have z4 : (i.o != 0) = true := by simp [bne, z2]
        by_cases h15 : i.o = 15
        · have q1 : ((i.o : Int) == 15) = true := by rw [h15]; rfl
          have q2 : (i.o == 15) = true := by rw [h15]; rfl
          have q3 : ((i.o : Int) != 15) = false := by rw [h15]; rfl
          have q4 : (i.o != 15) = false := by rw [h15]; rfl
          have ho' := hide h15
          clear ho h15
          go_wp2_with fail
          go_ret
          exact ⟨hb1'.out, .inl ⟨⟨by omega, by omega, fun m hm => hfit'.out m hm hm, fun x hx => by rw [hlast.out] at hx; cases hx; exact .inr ho'.out⟩, rfl⟩⟩
        · have q1 : ((i.o : Int) == 15) = false := beq_eq_false_iff_ne.2 (by omega)
          have q2 : (i.o == 15) = false := beq_eq_false_iff_ne.2 h15
          have q3 : ((i.o : Int) != 15) = true := by simp [bne, q1]
          have q4 : (i.o != 15) = true := by simp [bne, q2]
          have ho' := hide ho
          have h15' := hide h15
          clear ho h15
          go_wp2_with fail
          refine (newFault_any 2 ((l.length - 1 : Nat) : Int) (by decide) _).mono ?_
          rintro e wf ⟨g, rfl, _, _, _, _, _, hbf⟩
          have hbz := hide (hb1'.out.trans (hbf.mono hb1'.out.size))
          clear hbf
          go_wp2_with fail
          go_ret
          exact ⟨hbz.out, .inr ⟨fun p => by rcases p.last i hlast.out with h | h; exact ho'.out h; exact h15'.out h, g, rfl⟩⟩
/-- the halt -/
def hlt : Ins := ⟨0, 0, 0, 0⟩
theorem prog2 (i : Ins) : Prog [i, hlt] ↔ i.formed = true ∧ (i.jumps = true → i.num < 2) := by
  constructor
  · intro p
    exact p.fit 0 (by simp)
  · intro h
    refine ⟨by simp, by simp, fun k hk => ?_, fun x hx => ?_⟩
    · match k, hk with
      | 0, _ => exact h
      | 1, _ => exact ⟨show hlt.formed = true by decide, fun h => absurd (show hlt.jumps = true from h) (by decide)⟩
    · cases hx; exact .inl rfl
theorem num_zero (o a : Nat) : Ins.num ⟨o, a, 0, 0⟩ = 0 := by unfold Ins.num; simp
/-- an instruction whose number counts for nothing -/
def Ins.plain (i : Ins) : Ins := if i.jumps then ⟨i.o, i.a, 0, 0⟩ else i
theorem plain_prog (i : Ins) : Prog [i.plain, hlt] ↔ i.formed = true := by
  rw [prog2]
  unfold Ins.plain
  cases hj : i.jumps
  · rw [if_neg (by simp)]
    exact ⟨fun h => h.1, fun h => ⟨h, fun e => by rw [hj] at e; cases e⟩⟩
  · rw [if_pos rfl]
    have ho : i.o = 15 ∨ i.o = 16 := by unfold Ins.jumps at hj; simpa using hj
    have e : Ins.formed ⟨i.o, i.a, 0, 0⟩ = i.formed := by
      clear hj
      obtain ⟨o, a, b, c⟩ := i
      rcases ho with h | h <;> (dsimp only at h; subst h; simp [Ins.formed])
    rw [e]
    exact ⟨fun h => h.1, fun h => ⟨h, fun _ => by rw [num_zero]; omega⟩⟩
set_option maxRecDepth 100000 in
set_option maxHeartbeats 4000000 in
theorem ill_any (i : Ins) (ok : i.Ok) (w : World) : Calls Try.prog 21 #[i.v] w fun e w' => e = .returned (.bool (!i.formed)) ∧ Below w.heap.size w w' := by
  have hp := hide (plain_prog i)
  have ok' := hide ok
  obtain ⟨F, hF⟩ : ∃ F : Bool, F = i.formed := ⟨_, rfl⟩
  rw [← hF]
  have hF' := hide hF
  clear hF ok
  show Calls _ _ #[.agg #[.int .u8 (i.o : Nat), .int .u8 (i.a : Nat), .int .u8 (i.b : Nat), .int .u8 (i.c : Nat)]] w _
  go_enter Try.func21, Try.ntmps21
  go_upto_region 1 with (fail)
  have hB := IBox.new w 56 (i.o : Nat) (i.a : Nat) (i.b : Nat) (i.c : Nat)
  have hbA : Below w.heap.size w (w.alloc (.cells #[.int .u8 (i.o : Nat), .int .u8 (i.a : Nat), .int .u8 (i.b : Nat), .int .u8 (i.c : Nat)] 56)) := (Below.refl _ _).alloc (Nat.le_refl _) _
  generalize w.alloc (.cells #[.int .u8 (i.o : Nat), .int .u8 (i.a : Nat), .int .u8 (i.b : Nat), .int .u8 (i.c : Nat)] 56) = w1 at *
  obtain ⟨pb, hpb⟩ : ∃ pb, pb = w.heap.size := ⟨_, rfl⟩
  rw [← hpb] at hB ⊢
  have hpb' := hide hpb
  have hB' := hide hB
  have hb1 := hide hbA
  have y0 := hB.c0
  clear hpb hB hbA
  by_cases hj : i.o = 15 ∨ i.o = 16
  · have hpl := hide (show insV [i.plain, hlt] = [.int .u8 (i.o : Nat), .int .u8 (i.a : Nat), .int .u8 0, .int .u8 0, .int .u8 0, .int .u8 0, .int .u8 0, .int .u8 0] by
      have : i.jumps = true := by unfold Ins.jumps; simpa using hj
      unfold Ins.plain
      rw [this]
      simp [insV, hlt])
    have y2 := hB'.out.c2
    have y3 := hB'.out.c3
    have t2 := hB'.out.z 2
    have t3 := hB'.out.z 3
    have hj' : (((i.o : Int) == 15) = true ∧ (i.o == 15) = true) ∨ (((i.o : Int) == 15) = false ∧ (i.o == 15) = false ∧ ((i.o : Int) == 16) = true ∧ (i.o == 16) = true) := by
      rcases hj with h | h
      · exact .inl (by rw [h]; exact ⟨rfl, rfl⟩)
      · exact .inr (by rw [h]; exact ⟨rfl, rfl, rfl, rfl⟩)
    clear hj
    rcases hj' with ⟨a1, a2⟩ | ⟨a1, a2, a3, a4⟩
    · go_upto_region 3 with (fail)
      have hT : Touch (fun y => y = pb) w1 ((w1.setCell ⟨pb, 2, none⟩ (.int .u8 0)).setCell ⟨pb, 3, none⟩ (.int .u8 0)) := ((Touch.refl (fun y => y = pb) w1).setCell (p := ⟨pb, 2, none⟩) rfl _).setCell (p := ⟨pb, 3, none⟩) rfl _
      have q0 : ((w1.setCell ⟨pb, 2, none⟩ (.int .u8 0)).setCell ⟨pb, 3, none⟩ (.int .u8 0)).cell? ⟨pb, 0, none⟩ = some (.int .u8 (i.o : Nat)) := (World.cell?_setCell_other _ _ _ _ (by simp)).trans ((World.cell?_setCell_other _ _ _ _ (by simp)).trans hB'.out.c0)
      have q1 : ((w1.setCell ⟨pb, 2, none⟩ (.int .u8 0)).setCell ⟨pb, 3, none⟩ (.int .u8 0)).cell? ⟨pb, 1, none⟩ = some (.int .u8 (i.a : Nat)) := (World.cell?_setCell_other _ _ _ _ (by simp)).trans ((World.cell?_setCell_other _ _ _ _ (by simp)).trans hB'.out.c1)
      have q2 : ((w1.setCell ⟨pb, 2, none⟩ (.int .u8 0)).setCell ⟨pb, 3, none⟩ (.int .u8 0)).cell? ⟨pb, 2, none⟩ = some (.int .u8 0) := (World.cell?_setCell_other _ _ _ _ (by simp)).trans (World.cell?_setCell_same _ _ _ y2)
      have q3 : ((w1.setCell ⟨pb, 2, none⟩ (.int .u8 0)).setCell ⟨pb, 3, none⟩ (.int .u8 0)).cell? ⟨pb, 3, none⟩ = some (.int .u8 0) := World.cell?_setCell_same _ _ _ ((World.cell?_setCell_other _ _ _ _ (by simp)).trans y3)
      have hb2 := hide (hb1.out.trans (hT.below hb1.out.size (fun y hy e => by have := hpb'.out; omega)))
      clear hT y0 y2 y3 t2 t3 hB'
      generalize (w1.setCell ⟨pb, 2, none⟩ (.int .u8 0)).setCell ⟨pb, 3, none⟩ (.int .u8 0) = w2 at *
      have hbS : Below w2.heap.size w2 (w2.alloc (.cells #[.int .u8 (i.o : Nat), .int .u8 (i.a : Nat), .int .u8 (0), .int .u8 (0), .int .u8 0, .int .u8 0, .int .u8 0, .int .u8 0] 56)) := (Below.refl _ _).alloc (Nat.le_refl _) _
      have hS : Inss (w2.alloc (.cells #[.int .u8 (i.o : Nat), .int .u8 (i.a : Nat), .int .u8 (0), .int .u8 (0), .int .u8 0, .int .u8 0, .int .u8 0, .int .u8 0] 56)) (.slice (some ⟨w2.heap.size, 0, none⟩) 2 2) [i.plain, hlt] :=
        ⟨_, 2, rfl, Nat.le_refl _, by simp [maxLen], by simp [insV], fun _ => ⟨w2.heap.size, 0, rfl, by simp, fun j u hu => by
          have := cell_of_row (w2.alloc (.cells #[.int .u8 (i.o : Nat), .int .u8 (i.a : Nat), .int .u8 (0), .int .u8 (0), .int .u8 0, .int .u8 0, .int .u8 0, .int .u8 0] 56)) w2.heap.size (0 + j) _ _ _ (heap_alloc_new w2 _)
          rw [this, Nat.zero_add, ← Array.getElem?_toList]
          rw [hpl.out] at hu
          exact hu⟩⟩
      have hS' := hide hS
      have hb3 := hide (hb2.out.trans (hbS.mono hb2.out.size))
      clear hS hbS
      go_wp2_with fail
      refine (check_any _ [i.plain, hlt] (fun x hx => by
        simp only [List.mem_cons, List.not_mem_nil, or_false] at hx
        rcases hx with rfl | rfl
        · unfold Ins.plain
          split
          · exact ⟨ok'.out.o, ok'.out.a, show (0 : Nat) < 256 by decide, show (0 : Nat) < 256 by decide⟩
          · exact ok'.out
        · exact ⟨by decide, by decide, by decide, by decide⟩) _ hS'.out).mono ?_
      rintro e w4 ⟨hb, h⟩
      have hb4 := hide (hb3.out.trans (hb.mono hb3.out.size))
      clear hb
      rcases h with ⟨hq, rfl⟩ | ⟨hq, g, rfl⟩
      · have hF2 := hide (show F = true by rw [hF'.out]; exact hp.out.1 hq)
        clear hq
        go_wp2_with fail
        go_ret
        exact ⟨ret_bool (by rw [hF2.out]; rfl), hb4.out⟩
      · have hF2 := hide (show F = false by rw [hF'.out]; cases h : i.formed; rfl; exact absurd (hp.out.2 h) hq)
        clear hq
        go_wp2_with fail
        go_ret
        exact ⟨ret_bool (by rw [hF2.out]; rfl), hb4.out⟩
    · go_upto_region 3 with (fail)
      have hT : Touch (fun y => y = pb) w1 ((w1.setCell ⟨pb, 2, none⟩ (.int .u8 0)).setCell ⟨pb, 3, none⟩ (.int .u8 0)) := ((Touch.refl (fun y => y = pb) w1).setCell (p := ⟨pb, 2, none⟩) rfl _).setCell (p := ⟨pb, 3, none⟩) rfl _
      have q0 : ((w1.setCell ⟨pb, 2, none⟩ (.int .u8 0)).setCell ⟨pb, 3, none⟩ (.int .u8 0)).cell? ⟨pb, 0, none⟩ = some (.int .u8 (i.o : Nat)) := (World.cell?_setCell_other _ _ _ _ (by simp)).trans ((World.cell?_setCell_other _ _ _ _ (by simp)).trans hB'.out.c0)
      have q1 : ((w1.setCell ⟨pb, 2, none⟩ (.int .u8 0)).setCell ⟨pb, 3, none⟩ (.int .u8 0)).cell? ⟨pb, 1, none⟩ = some (.int .u8 (i.a : Nat)) := (World.cell?_setCell_other _ _ _ _ (by simp)).trans ((World.cell?_setCell_other _ _ _ _ (by simp)).trans hB'.out.c1)
      have q2 : ((w1.setCell ⟨pb, 2, none⟩ (.int .u8 0)).setCell ⟨pb, 3, none⟩ (.int .u8 0)).cell? ⟨pb, 2, none⟩ = some (.int .u8 0) := (World.cell?_setCell_other _ _ _ _ (by simp)).trans (World.cell?_setCell_same _ _ _ y2)
      have q3 : ((w1.setCell ⟨pb, 2, none⟩ (.int .u8 0)).setCell ⟨pb, 3, none⟩ (.int .u8 0)).cell? ⟨pb, 3, none⟩ = some (.int .u8 0) := World.cell?_setCell_same _ _ _ ((World.cell?_setCell_other _ _ _ _ (by simp)).trans y3)
      have hb2 := hide (hb1.out.trans (hT.below hb1.out.size (fun y hy e => by have := hpb'.out; omega)))
      clear hT y0 y2 y3 t2 t3 hB'
      generalize (w1.setCell ⟨pb, 2, none⟩ (.int .u8 0)).setCell ⟨pb, 3, none⟩ (.int .u8 0) = w2 at *
      have hbS : Below w2.heap.size w2 (w2.alloc (.cells #[.int .u8 (i.o : Nat), .int .u8 (i.a : Nat), .int .u8 (0), .int .u8 (0), .int .u8 0, .int .u8 0, .int .u8 0, .int .u8 0] 56)) := (Below.refl _ _).alloc (Nat.le_refl _) _
      have hS : Inss (w2.alloc (.cells #[.int .u8 (i.o : Nat), .int .u8 (i.a : Nat), .int .u8 (0), .int .u8 (0), .int .u8 0, .int .u8 0, .int .u8 0, .int .u8 0] 56)) (.slice (some ⟨w2.heap.size, 0, none⟩) 2 2) [i.plain, hlt] :=
        ⟨_, 2, rfl, Nat.le_refl _, by simp [maxLen], by simp [insV], fun _ => ⟨w2.heap.size, 0, rfl, by simp, fun j u hu => by
          have := cell_of_row (w2.alloc (.cells #[.int .u8 (i.o : Nat), .int .u8 (i.a : Nat), .int .u8 (0), .int .u8 (0), .int .u8 0, .int .u8 0, .int .u8 0, .int .u8 0] 56)) w2.heap.size (0 + j) _ _ _ (heap_alloc_new w2 _)
          rw [this, Nat.zero_add, ← Array.getElem?_toList]
          rw [hpl.out] at hu
          exact hu⟩⟩
      have hS' := hide hS
      have hb3 := hide (hb2.out.trans (hbS.mono hb2.out.size))
      clear hS hbS
      go_wp2_with fail
      refine (check_any _ [i.plain, hlt] (fun x hx => by
        simp only [List.mem_cons, List.not_mem_nil, or_false] at hx
        rcases hx with rfl | rfl
        · unfold Ins.plain
          split
          · exact ⟨ok'.out.o, ok'.out.a, show (0 : Nat) < 256 by decide, show (0 : Nat) < 256 by decide⟩
          · exact ok'.out
        · exact ⟨by decide, by decide, by decide, by decide⟩) _ hS'.out).mono ?_
      rintro e w4 ⟨hb, h⟩
      have hb4 := hide (hb3.out.trans (hb.mono hb3.out.size))
      clear hb
      rcases h with ⟨hq, rfl⟩ | ⟨hq, g, rfl⟩
      · have hF2 := hide (show F = true by rw [hF'.out]; exact hp.out.1 hq)
        clear hq
        go_wp2_with fail
        go_ret
        exact ⟨ret_bool (by rw [hF2.out]; rfl), hb4.out⟩
      · have hF2 := hide (show F = false by rw [hF'.out]; cases h : i.formed; rfl; exact absurd (hp.out.2 h) hq)
        clear hq
        go_wp2_with fail
        go_ret
        exact ⟨ret_bool (by rw [hF2.out]; rfl), hb4.out⟩
  · have a1 : ((i.o : Int) == 15) = false := beq_eq_false_iff_ne.2 (by omega)
    have a2 : (i.o == 15) = false := beq_eq_false_iff_ne.2 (by omega)
    have a3 : ((i.o : Int) == 16) = false := beq_eq_false_iff_ne.2 (by omega)
    have a4 : (i.o == 16) = false := beq_eq_false_iff_ne.2 (by omega)
    have hpl := hide (show insV [i.plain, hlt] = [.int .u8 (i.o : Nat), .int .u8 (i.a : Nat), .int .u8 (i.b : Nat), .int .u8 (i.c : Nat), .int .u8 0, .int .u8 0, .int .u8 0, .int .u8 0] by
      have : i.jumps = false := by unfold Ins.jumps; simpa using hj
      unfold Ins.plain
      rw [this]
      simp [insV, hlt])
    clear hj
    have y1 := hB'.out.c1
    have y2 := hB'.out.c2
    have y3 := hB'.out.c3
    go_upto_region 3 with (fail)
    obtain ⟨w2, rfl⟩ : ∃ w2 : World, w2 = w1 := ⟨_, rfl⟩
    have hb2 := hb1
    have hbS : Below w2.heap.size w2 (w2.alloc (.cells #[.int .u8 (i.o : Nat), .int .u8 (i.a : Nat), .int .u8 ((i.b : Nat)), .int .u8 ((i.c : Nat)), .int .u8 0, .int .u8 0, .int .u8 0, .int .u8 0] 56)) := (Below.refl _ _).alloc (Nat.le_refl _) _
    have hS : Inss (w2.alloc (.cells #[.int .u8 (i.o : Nat), .int .u8 (i.a : Nat), .int .u8 ((i.b : Nat)), .int .u8 ((i.c : Nat)), .int .u8 0, .int .u8 0, .int .u8 0, .int .u8 0] 56)) (.slice (some ⟨w2.heap.size, 0, none⟩) 2 2) [i.plain, hlt] :=
      ⟨_, 2, rfl, Nat.le_refl _, by simp [maxLen], by simp [insV], fun _ => ⟨w2.heap.size, 0, rfl, by simp, fun j u hu => by
        have := cell_of_row (w2.alloc (.cells #[.int .u8 (i.o : Nat), .int .u8 (i.a : Nat), .int .u8 ((i.b : Nat)), .int .u8 ((i.c : Nat)), .int .u8 0, .int .u8 0, .int .u8 0, .int .u8 0] 56)) w2.heap.size (0 + j) _ _ _ (heap_alloc_new w2 _)
        rw [this, Nat.zero_add, ← Array.getElem?_toList]
        rw [hpl.out] at hu
        exact hu⟩⟩
    have hS' := hide hS
    have hb3 := hide (hb2.out.trans (hbS.mono hb2.out.size))
    clear hS hbS
    go_wp2_with fail
    refine (check_any _ [i.plain, hlt] (fun x hx => by
      simp only [List.mem_cons, List.not_mem_nil, or_false] at hx
      rcases hx with rfl | rfl
      · unfold Ins.plain
        split
        · exact ⟨ok'.out.o, ok'.out.a, show (0 : Nat) < 256 by decide, show (0 : Nat) < 256 by decide⟩
        · exact ok'.out
      · exact ⟨by decide, by decide, by decide, by decide⟩) _ hS'.out).mono ?_
    rintro e w4 ⟨hb, h⟩
    have hb4 := hide (hb3.out.trans (hb.mono hb3.out.size))
    clear hb
    rcases h with ⟨hq, rfl⟩ | ⟨hq, g, rfl⟩
    · have hF2 := hide (show F = true by rw [hF'.out]; exact hp.out.1 hq)
      clear hq
      go_wp2_with fail
      go_ret
      exact ⟨ret_bool (by rw [hF2.out]; rfl), hb4.out⟩
    · have hF2 := hide (show F = false by rw [hF'.out]; cases h : i.formed; rfl; exact absurd (hp.out.2 h) hq)
      clear hq
      go_wp2_with fail
      go_ret
      exact ⟨ret_bool (by rw [hF2.out]; rfl), hb4.out⟩
end Go.Proofs.Ytmgcbiejnifhpaa
