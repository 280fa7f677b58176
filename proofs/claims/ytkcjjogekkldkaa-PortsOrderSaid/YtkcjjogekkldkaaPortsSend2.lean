/- ports: Send walked. -/
import Derived.Test.YtkcjjogekkldkaaPortsSend
import Derived.Laws.IdiomCopy
namespace Go.Proofs.Ytkcjjogekkldkaa
open Go.RowKit

theorem send_len (c : Chan) (l : List UInt8) (now : Nat) (h : (c.size < (l.length : Int))) : sendC c l now = (c, 1) := if_pos h

def msgZ (n : Nat) (a : Nat) : List Value := List.replicate 64 (Value.int .u8 0) ++ [Value.int .i64 n, Value.int .u64 a]
/-- the message's variable: made, laid, the bytes copied into it -/
theorem msg_new (W : World) (T : TypeId) (l : List UInt8) (now : Nat) (hl : l.length ≤ 64) (Z : Array Value) (hZ : Z.toList = msgZ l.length now) :
    ((W.alloc (.cells Z T)).setCells W.heap.size 0 (bytesV l)).rangeAt W.heap.size 0 (msgV ⟨l, now⟩) := by
  have hc : ∀ j, (W.alloc (.cells Z T)).cell? ⟨W.heap.size, j, none⟩ = (msgZ l.length now)[j]? := fun j => by
    rw [← hZ, Array.getElem?_toList]; exact cell_of_row _ _ j _ T (0, 0) (heap_alloc_last W _)
  intro j u hu
  rw [Nat.zero_add]
  by_cases hj : j < l.length
  · have := World.cell?_setCells_in W.heap.size (bytesV l) 0 (W.alloc (.cells Z T)) (fun i hi => by
      rw [Nat.zero_add, hc, List.getElem?_eq_getElem (by simp [msgZ]; rw [bytesV_length] at hi; omega)]; rfl) j (by rw [bytesV_length]; exact hj)
    rw [Nat.zero_add] at this
    rw [this, ← hu]
    unfold msgV
    rw [List.append_assoc, List.getElem?_append_left (by rw [bytesV_length]; exact hj), List.getElem?_eq_getElem]
  · rw [World.cell?_setCells_out W.heap.size (bytesV l) 0 _ ⟨W.heap.size, j, none⟩ (fun _ _ => by rw [bytesV_length]; right; show 0 + l.length ≤ j; omega), hc, ← hu]
    have e1 : (msgV ⟨l, now⟩)[j]? = (List.replicate (64 - l.length) (Value.int .u8 0) ++ [Value.int .i64 l.length, Value.int .u64 now])[j - l.length]? := by
      unfold msgV
      rw [List.append_assoc, List.getElem?_append_right (by rw [bytesV_length]; show l.length ≤ j; omega), bytesV_length]
    rw [e1]
    unfold msgZ
    by_cases h64 : j < 64
    · rw [List.getElem?_append_left (by simp; exact h64), List.getElem?_append_left (by simp; omega), List.getElem?_replicate, List.getElem?_replicate, if_pos h64, if_pos (by omega)]
    · rw [List.getElem?_append_right (by simp; omega), List.getElem?_append_right (by simp; omega)]
      simp only [List.length_replicate]
      congr 1
      omega

theorem msgZ_length (n a : Nat) : (msgZ n a).length = 66 := by simp [msgZ]
theorem store_msg {P : Program} (W : World) (T : TypeId) (Z : Array Value) (hzl : Z.toList = msgZ 0 0) (n a : Nat) (hi : (P.info? T).map (·.size) = some 66) :
    (storeCells ⟨W.heap.size, 0, none⟩ ((Z.toList.set 64 (Value.int .i64 n)).set 65 (Value.int .u64 a))).run P (W.alloc (.cells Z T)) = .ok () (W.alloc (.cells (msgZ n a).toArray T)) := by
  have e : (Z.toList.set 64 (Value.int .i64 n)).set 65 (Value.int .u64 a) = (msgZ n a).toArray.toList := by
    rw [hzl]; rfl
  rw [e]
  refine run_storeCells_new (P := P) W T Z (msgZ n a).toArray (by rw [hi]; simp [msgZ_length]) (by rw [← Array.length_toList, hzl]; simp [msgZ_length]) ?_
  refine all_oneCell_toArray fun v hv => ?_
  simp only [msgZ, List.mem_append, List.mem_replicate, List.mem_cons, List.not_mem_nil, or_false] at hv
  rcases hv with ⟨_, rfl⟩ | rfl | rfl <;> rfl
theorem copy_msg {P : Program} (W : World) (T dT sT ty elem : TypeId) (A : Option Addr) (cp : Nat) (l : List UInt8) (a : Nat) (hb : Bs W (.slice A l.length cp) l) (hl : l.length ≤ 64)
    (hu : P.underlying dT = some (.slice elem)) (hs : (P.info? elem).map (·.size) = some 1) :
    (Builtin.copy_ #[dT, sT] ty #[.slice (some ⟨W.heap.size, 0, none⟩) 64 64, .slice A l.length cp]).run P (W.alloc (.cells (msgZ l.length a).toArray T)) = .ok (goInt l.length) ((W.alloc (.cells (msgZ l.length a).toArray T)).setCells W.heap.size 0 (bytesV l)) := by
  have hm : Nat.min l.length 64 = l.length := Nat.min_eq_left hl
  have hc : ∀ j, (W.alloc (.cells (msgZ l.length a).toArray T)).cell? ⟨W.heap.size, j, none⟩ = (msgZ l.length a)[j]? := fun j => by
    rw [cell_of_row _ _ j _ T (0, 0) (heap_alloc_last W _)]; simp
  obtain ⟨A', c', he, h1, h2, h3⟩ := hb.open_
  cases he
  rcases Nat.eq_zero_or_pos l.length with h0 | h0
  · have : l = [] := List.length_eq_zero_iff.1 h0
    subst this
    exact run_copy_none (P := P) _ dT sT ty elem _ _ _ _ _ _ hu hs (by simp)
  · obtain ⟨b, off, rfl, hb', hcs⟩ := h3 h0
    have := run_copy_cells (P := P) (W.alloc (.cells (msgZ l.length a).toArray T)) dT sT ty elem W.heap.size 0 64 64 ⟨b, off, none⟩ l.length cp (bytesV l) hu hs (by rw [bytesV_length]; exact hm.symm)
      (fun j v hv => by
        have hj : j < l.length := by have := (List.getElem?_eq_some_iff.1 hv).1; rwa [bytesV_length] at this
        rw [bytesV_get l j hj] at hv
        rw [Addr.add_mid, ← hv, (Later.cell (later_alloc (F := fun _ => False) W _) hb' (fun h => h)).1]
        exact hcs j hj)
      (fun j hj => by rw [bytesV_length] at hj; rw [Nat.zero_add, hc, List.getElem?_eq_getElem (by rw [msgZ_length]; omega)]; rfl)
      (fun j hj => frozen_of_row _ _ _ _ T (heap_alloc_last W _)) (bytesV_one l)
    rw [bytesV_length] at this
    exact this

theorem load_msg {P : Program} (w : World) (b o : Nat) (cs : List Value) (hl : cs.length = 66) (hc : w.rangeAt b o cs) : (loadCellsFrom ⟨b, o, none⟩ 0 66 #[]).run P w = .ok cs.toArray w := by
  have := run_loadCells_list (P := P) w ⟨b, o, none⟩ cs (fun j v hv => by rw [Addr.add_mid]; exact hc j v hv)
  rw [hl] at this
  simpa [loadCells] using this
theorem exec_load_mid {P : Program} {o : Oper} {a : Act} {w : World} (ty : TypeId) (x : Operand) (ho : o.op = .load ty x) (b off : Nat) (hx : a.eval x = .pointer (some ⟨b, off, none⟩)) (cs : List Value) (d : TypeDesc) (hc : w.rangeAt b off cs)
    (hu : P.underlying ty = some d) (hd : d.isRow = true) (hi : (P.info? ty).map (·.size) = some cs.length) : (execOp a.eval o).run P w = .ok (.value (.agg cs.toArray)) w := by
  unfold execOp
  simp only [ho, hx, Instr.loadAt, Instr.sureAddr, Sem.run_bind, Sem.run_pure, Result.andThen_ok, run_loadVar_mid w b off ty cs d hc hu hd hi]
theorem later_msg (W : World) (T : TypeId) (Z : Array Value) (vs : List Value) : Touch (fun _ => False) W ((W.alloc (.cells Z T)).setCells W.heap.size 0 vs) :=
  (Touch.setCells (F := fun k => k = W.heap.size) rfl vs 0 ((Touch.refl _ W).alloc _)).mono fun k hk e => by omega
theorem range_later {F : Nat → Prop} {w w' : World} (h : Later F w w') {b o : Nat} {cs : List Value} (hb : b < w.heap.size) (hf : ¬ F b) (hc : w.rangeAt b o cs) : w'.rangeAt b o cs := fun j v hv => (Later.cell h hb hf).1.trans (hc j v hv)

theorem run_store_there {P : Program} {w : World} {g o : Nat} {vs : List Value} (ht : w.there g o vs.length) (h1 : ∀ v ∈ vs, v.oneCell' = true) : (storeCells ⟨g, o, none⟩ vs).run P w = .ok () (w.setCells g o vs) :=
  run_storeCells_cells (P := P) g o vs 0 w (fun j hj => (ht j hj).1) (fun j hj => (ht j hj).2) h1
theorem ChanAt.there {w : World} {g : Nat} {c : Chan} (h : ChanAt w g c) (i : Nat) (hi : i < 16) : w.there g (3 + i * 66) 66 := fun j hj => by
  obtain ⟨u, hu, _⟩ := h.cells (3 + i * 66 + j) (by omega)
  exact ⟨by rw [hu]; rfl, h.thaw _⟩

set_option maxRecDepth 100000 in
set_option maxHeartbeats 4000000 in
theorem send_any (g : Nat) (c : Chan) (v : Value) (l : List UInt8) (now : Nat) (hnow : now < 18446744073709551616) (w : World) (h : ChanAt w g c) (hb : Bs w v l) (hv : l ≠ [] → ∀ b, v.ownBlock = some b → b ≠ g) :
    Calls Try.prog 15 #[.pointer (some ⟨g, 0, none⟩), v, .int .u64 now] w fun e w' => e = .returned (.int .i64 (sendC c l now).2) ∧ ChanAt w' g (sendC c l now).1 ∧ Touch (fun k => k = g) w w' := by
  obtain ⟨A, cp, rfl, hcp1, hcp2, hcp3⟩ := hb.open_
  have hb' := hide hb
  have hcp3' := hide hcp3
  clear hcp3 hb
  by_cases hlen : c.size < (l.length : Int)
  · rw [send_len c l now hlen]
    have h2 := h.size
    have hd : decide (c.size < (l.length : Int)) = true := decide_eq_true hlen
    have h' := hide h
    clear h
    go_enter Try.func15, Try.ntmps15
    go_wp2_with fail
    go_ret
    exact ⟨rfl, h'.out, Touch.refl _ _⟩
  have hl64 : (l.length : Int) ≤ 64 := by have := h.ok.shape.2.1; omega
  have hd : decide (c.size < (l.length : Int)) = false := decide_eq_false hlen
  by_cases hk : c.kind = 0
  · have hm1 : c.most = 1 := by rcases h.ok.shape.2.2 with ⟨_, h1⟩ | ⟨h1, _⟩ <;> omega
    have hs : sendC c l now = ({ c with L := [⟨l, now⟩] }, 0) := by unfold sendC; rw [if_neg hlen, if_pos hk]
    rw [hs]
    have hkd : w.cell? ⟨g, 0, none⟩ = some (.int .i64 0) := by rw [← hk]; exact h.kind
    have hsz := h.size
    have hn := h.n
    have hzn := h.thaw 1060
    have hC0 := h.clear
    have f0 : ∀ w', Later (fun _ => False) (w.setCell ⟨g, 1060, none⟩ (.int .i64 0)).drew w' → w'.cell? ⟨g, 0, none⟩ = some (.int .i64 0) := fun w' hl => (Later.cell (a := w.setCell ⟨g, 1060, none⟩ (.int .i64 0)) hl hC0.lt (fun h => h)).1.trans (hk ▸ hC0.kind)
    have f1 : ∀ w', Later (fun _ => False) (w.setCell ⟨g, 1060, none⟩ (.int .i64 0)).drew w' → w'.cell? ⟨g, 1, none⟩ = some (.int .i64 1) := fun w' hl => (Later.cell (a := w.setCell ⟨g, 1060, none⟩ (.int .i64 0)) hl hC0.lt (fun h => h)).1.trans (hm1 ▸ hC0.most)
    have f60 : ∀ w', Later (fun _ => False) (w.setCell ⟨g, 1060, none⟩ (.int .i64 0)).drew w' → w'.cell? ⟨g, 1060, none⟩ = some (.int .i64 0) := fun w' hl => (Later.cell (a := w.setCell ⟨g, 1060, none⟩ (.int .i64 0)) hl hC0.lt (fun h => h)).1.trans hC0.n
    obtain ⟨hz, hzs⟩ := zMsg
    have hzl := hide zMsgOne
    generalize zeroCells Try.prog 80 = Z at *
    have hz0 : ¬ Z = #[] := by intro e; rw [e] at hzs; simp at hzs
    have hW : ChanAt (w.setCell ⟨g, 1060, none⟩ (.int .i64 0)).drew g { c with L := [] } := hC0.later (F := fun _ => False) (later_drew _) (fun h => h)
    have hbW : Bs (w.setCell ⟨g, 1060, none⟩ (.int .i64 0)).drew (.slice A l.length cp) l := hb'.out.later' (F := fun k => k = g) (later_setCell (F := fun k => k = g) _ _ rfl) hv
    have hW' := hide hW
    have hbW' := hide hbW
    have hmw := hide hm1
    clear hs hW hbW h hC0 hm1 hk
    go_enter Try.func15, Try.ntmps15
    go_wp2_with fail
    refine region_plan [(true, 0), (true, 1), (true, 2), (true, 3), (true, 4), (true, 5), (true, 6), (true, 7), (true, 8)] (Later fun _ => False) (later_refl _) (later_trans _) (by kernel_rfl) (by kernel_rfl) (fun _ _ d _ _ h => by cases d <;> exact h) ?_
    repeat
      (first
        | (show wpPlan _ _ _ _ ((true, _) :: _) _ _
           refine plan_skip rfl (by rfl) ?_
           simp only [Act.put, List.setIfInBounds_toArray, List.set_cons_zero, List.set_cons_succ])
        | (show wpPlan _ _ _ _ ((false, _) :: _) _ _
           refine plan_skip_eff (later_refl _) rfl (by rfl) ?_
           simp only [Act.put, List.setIfInBounds_toArray, List.set_cons_zero, List.set_cons_succ])
        | (show wpPlan _ _ _ _ ((true, _) :: _) _ _
           refine plan_take (v := ?_) rfl (by rfl) (fun w' hw' => ?_) ?_
           rotate_left
           focus
             go_simp
             try with_reducible rfl
             done
           simp only [Act.put, List.setIfInBounds_toArray, List.set_cons_zero, List.set_cons_succ]))
    refine plan_nil ?_
    clear f0 f1 f60
    have hT0 : Touch (fun k => k = g) w ((w.setCell ⟨g, 1060, none⟩ (.int .i64 0)).drew) := ((Touch.refl (fun k => k = g) w).setCell (p := ⟨g, 1060, none⟩) rfl _).drew
    have hT0' := hide hT0
    clear hT0
    generalize (w.setCell ⟨g, 1060, none⟩ (.int .i64 0)).drew = W at *
    have hst := store_msg (P := Try.prog) W 80 Z hzl.out l.length now (by kernel_rfl)
    have hcp := copy_msg (P := Try.prog) W 80 30 30 3 5 A cp l now hbW'.out (by omega) Try.underlying30 (by kernel_rfl)
    go_wp2_with fail
    have hT := later_msg W 80 (msgZ l.length now).toArray (bytesV l)
    have hR := msg_new W 80 l now (by omega) (msgZ l.length now).toArray (by simp)
    have hh : W.heap.size < ((W.alloc (.cells (msgZ l.length now).toArray 80)).setCells W.heap.size 0 (bytesV l)).heap.size := by rw [heap_setCells_size]; simp
    generalize (W.alloc (.cells (msgZ l.length now).toArray 80)).setCells W.heap.size 0 (bytesV l) = W3 at *
    clear hst hcp
    have hC3 := hW'.out.later hT.2 (fun h => h)
    have f59 : ∀ w', Later (fun _ => False) W3.drew w' → w'.cell? ⟨g, 1059, none⟩ = some (.int .i64 c.first) := fun w' hl => (Later.cell (a := W3) hl hC3.lt (fun h => h)).1.trans hC3.first
    have f60 : ∀ w', Later (fun _ => False) W3.drew w' → w'.cell? ⟨g, 1060, none⟩ = some (.int .i64 0) := fun w' hl => (Later.cell (a := W3) hl hC3.lt (fun h => h)).1.trans hC3.n
    have hml := msgV_length ⟨l, now⟩ (by show l.length ≤ 64; omega)
    have fld := hide (fun w' (hl : Later (fun _ => False) W3.drew w') => range_later (F := fun _ => False) (w := W3) (w' := w') hl hh (fun h => h) hR)
    have hi1 : c.first < 16 := hC3.idx.1
    have hi2 : 0 ≤ 16 := hC3.idx.2
    obtain ⟨i, hi, hie⟩ : ∃ i, i < 16 ∧ i = (c.first + 0) % 16 := ⟨_, Nat.mod_lt _ (by omega), rfl⟩
    have hmd : ChanAt W3.drew g { c with L := [] } := hC3.later (F := fun _ => False) (later_drew _) (fun h => h)
    have hst := run_store_there (P := Try.prog) (w := W3.drew) (g := g) (o := 3 + i * 66) (vs := msgV ⟨l, now⟩) (by rw [hml]; exact hmd.there i hi) (msgV_one ⟨l, now⟩)
    obtain ⟨W4, hW4⟩ : ∃ W4, W4 = W3.drew.setCells g (3 + i * 66) (msgV ⟨l, now⟩) := ⟨_, rfl⟩
    have hn4 : W4.cell? ⟨g, 1060, none⟩ = some (.int .i64 0) := by
      rw [hW4, World.cell?_setCells_out g _ _ _ ⟨g, 1060, none⟩ (fun _ _ => by rw [hml]; right; show 3 + i * 66 + 66 ≤ 1060; omega)]; exact hmd.n
    have hz4 : W4.frozen? ⟨g, 1060, none⟩ = false := by rw [hW4, World.frozen?_setCells]; exact hmd.thaw _
    have hT4 : Touch (fun k => k = g) W3 W4 := by rw [hW4]; exact Touch.setCells (F := fun k => k = g) rfl _ _ (Touch.refl _ _).drew
    have hpush : ChanAt (W4.setCell ⟨g, 1060, none⟩ (.int .i64 (1))) g { { c with L := [] } with L := ({ c with L := [] }).L ++ [⟨l, now⟩] } := by
      rw [hW4, hie, Nat.mul_comm ((c.first + 0) % 16) 66]
      exact hmd.push ⟨l, now⟩ (by show (l.length : Int) ≤ c.size; omega) hnow (by show (0 : Int) < c.most; rw [hmw.out]; omega)
    rw [← hW4] at hst
    have hpush' := hide hpush
    have hT4' := hide hT4
    clear hpush hT4 hW4 hmd
    have hw1 : IntKind.i64.wrap ((c.first : Int)) = ((c.first + 0 : Nat) : Int) := IntWalk.i64_in _ (by omega)
    have hw2 : (((c.first + 0 : Nat) : Int)).tmod 16 = (i : Int) := by rw [hie]; rfl
    have hie' := hide hie
    have hiI : (i : Int) < 16 := by omega
    have hi0 : (0 : Int) ≤ (i : Int) := by omega
    clear hie
    generalize c.first + 0 = sm at *
    have hC3' := hide hC3
    have hT' := hide hT
    clear hT hC3 hR
    generalize W.heap.size = hp at *
    refine region_plan [(true, 0), (true, 1), (true, 2), (true, 3), (true, 4), (true, 5), (true, 6), (true, 7), (true, 8), (true, 9), (true, 10), (true, 11), (true, 12), (true, 13), (true, 14), (false, 15)] (Later fun _ => False) (later_refl _) (later_trans _) (by kernel_rfl) (by kernel_rfl) (fun _ _ d _ _ h => by cases d <;> exact h) ?_
    repeat
      (first
        | (show wpPlan _ _ _ _ ((true, _) :: _) _ _
           refine plan_skip rfl (by rfl) ?_
           simp only [Act.put, List.setIfInBounds_toArray, List.set_cons_zero, List.set_cons_succ])
        | (show wpPlan _ _ _ _ ((false, _) :: _) _ _
           refine plan_skip_eff (later_refl _) rfl (by rfl) ?_
           simp only [Act.put, List.setIfInBounds_toArray, List.set_cons_zero, List.set_cons_succ])
        | (show wpPlan _ _ _ _ ((true, _) :: _) _ _
           refine plan_take (v := ?_) rfl (by rfl) (fun w' hw' => ?_) ?_
           rotate_left
           focus
             go_simp
             try with_reducible rfl
             done
           simp only [Act.put, List.setIfInBounds_toArray, List.set_cons_zero, List.set_cons_succ]))
    refine plan_take (v := .agg (msgV ⟨l, now⟩).toArray) rfl (by rfl) (fun w' hw' => exec_load_mid _ _ rfl _ _ rfl _ _ (fld.out w' hw') Try.underlying80 rfl (by rw [hml]; kernel_rfl)) ?_
    try simp only [Act.put, List.setIfInBounds_toArray, List.set_cons_zero, List.set_cons_succ]
    repeat
      (first
        | (show wpPlan _ _ _ _ ((true, _) :: _) _ _
           refine plan_skip rfl (by rfl) ?_
           simp only [Act.put, List.setIfInBounds_toArray, List.set_cons_zero, List.set_cons_succ])
        | (show wpPlan _ _ _ _ ((false, _) :: _) _ _
           refine plan_skip_eff (later_refl _) rfl (by rfl) ?_
           simp only [Act.put, List.setIfInBounds_toArray, List.set_cons_zero, List.set_cons_succ])
        | (show wpPlan _ _ _ _ ((true, _) :: _) _ _
           refine plan_take (v := ?_) rfl (by rfl) (fun w' hw' => ?_) ?_
           rotate_left
           focus
             go_simp
             try with_reducible rfl
             done
           simp only [Act.put, List.setIfInBounds_toArray, List.set_cons_zero, List.set_cons_succ]))
    refine plan_eff_last (by kernel_rfl) rfl (by rfl) (fun K hK => ?_)
    go_wp2_with fail
    go_ret
    exact ⟨rfl, hpush'.out, (hT0'.out.trans ((hT'.out.mono (fun k _ h => h.elim)).trans hT4'.out)).setCell rfl _⟩
  have hk0 : (c.kind == 0) = false := by simpa using hk
  have f0 : ∀ w', Later (fun _ => False) w.drew w' → w'.cell? ⟨g, 0, none⟩ = some (.int .i64 c.kind) := fun w' hl => (Later.cell (a := w) hl h.lt (fun h => h)).1.trans h.kind
  have f1 : ∀ w', Later (fun _ => False) w.drew w' → w'.cell? ⟨g, 1, none⟩ = some (.int .i64 c.most) := fun w' hl => (Later.cell (a := w) hl h.lt (fun h => h)).1.trans h.most
  have f60 : ∀ w', Later (fun _ => False) w.drew w' → w'.cell? ⟨g, 1060, none⟩ = some (.int .i64 c.L.length) := fun w' hl => (Later.cell (a := w) hl h.lt (fun h => h)).1.trans h.n
  have hsz := h.size
  have hkd := h.kind
  have h' := hide h
  by_cases hfull : (c.L.length : Int) = c.most
  · have hfb : ((c.L.length : Int) == c.most) = true := by simpa using hfull
    have hfull' := hide hfull
    clear hfull
    by_cases hk1 : c.kind = 1
    · have hs : sendC c l now = (c, 5) := by unfold sendC; rw [if_neg hlen, if_neg hk, if_pos hfull'.out, if_pos hk1]
      rw [hs]
      have hkb : (c.kind == 1) = true := by simpa using hk1
      clear hs hk1 h
      go_enter Try.func15, Try.ntmps15
      go_wp2_with fail
      refine region_plan [(true, 0), (true, 1), (true, 2), (true, 3), (true, 4), (true, 5), (true, 6), (true, 7), (true, 8)] (Later fun _ => False) (later_refl _) (later_trans _) (by kernel_rfl) (by kernel_rfl) (fun _ _ d _ _ h => by cases d <;> exact h) ?_
      repeat
        (first
          | (show wpPlan _ _ _ _ ((true, _) :: _) _ _
             refine plan_skip rfl (by rfl) ?_
             simp only [Act.put, List.setIfInBounds_toArray, List.set_cons_zero, List.set_cons_succ])
          | (show wpPlan _ _ _ _ ((false, _) :: _) _ _
             refine plan_skip_eff (later_refl _) rfl (by rfl) ?_
             simp only [Act.put, List.setIfInBounds_toArray, List.set_cons_zero, List.set_cons_succ])
          | (show wpPlan _ _ _ _ ((true, _) :: _) _ _
             refine plan_take (v := ?_) rfl (by rfl) (fun w' hw' => ?_) ?_
             rotate_left
             focus
               go_simp
               try with_reducible rfl
               done
             simp only [Act.put, List.setIfInBounds_toArray, List.set_cons_zero, List.set_cons_succ]))
      refine plan_nil ?_
      go_wp2_with fail
      go_ret
      exact ⟨rfl, h'.out.later (F := fun _ => False) (later_drew _) (fun h => h), (Touch.refl _ _).drew⟩
    · have hs : sendC c l now = ({ c with lost := if c.lost < 18446744073709551615 then c.lost + 1 else c.lost }, 0) := by unfold sendC; rw [if_neg hlen, if_neg hk, if_pos hfull'.out, if_neg hk1]
      rw [hs]
      have hkb : (c.kind == 1) = false := by simpa using hk1
      have hlost := h.ok.lost
      have f61 : ∀ w', Later (fun _ => False) w.drew.drew w' → w'.cell? ⟨g, 1061, none⟩ = some (.int .u64 c.lost) := fun w' hl => (Later.cell (a := w) hl h.lt (fun h => h)).1.trans h.lost
      have hfr : w.drew.drew.frozen? ⟨g, 1061, none⟩ = false := h.thaw 1061
      have hc61 := f61 _ (later_refl _ _)
      have hkd' : w.drew.cell? ⟨g, 0, none⟩ = some (.int .i64 c.kind) := hkd
      have hfin := hide (fun x hx => (h'.out.later (F := fun _ => False) (w' := w.drew.drew) (later_drew w) (fun h => h)).lose x hx)
      clear hs hk1 h
      by_cases hmx : c.lost < 18446744073709551615
      · rw [if_pos hmx]
        have hwr : IntKind.u64.wrap ((c.lost : Int) + 1) = (c.lost : Int) + 1 := IntWalk.u64_in _ (by omega)
        have hwl : (IntKind.u64.wrap ((c.lost : Int) + 1) ≤ (c.lost : Int)) = False := by rw [hwr]; exact eq_false (by omega)
        go_enter Try.func15, Try.ntmps15
        go_wp2_with fail
        refine region_plan [(true, 0), (true, 1), (true, 2), (true, 3), (true, 4), (true, 5), (true, 6), (true, 7), (true, 8)] (Later fun _ => False) (later_refl _) (later_trans _) (by kernel_rfl) (by kernel_rfl) (fun _ _ d _ _ h => by cases d <;> exact h) ?_
        repeat
          (first
            | (show wpPlan _ _ _ _ ((true, _) :: _) _ _
               refine plan_skip rfl (by rfl) ?_
               simp only [Act.put, List.setIfInBounds_toArray, List.set_cons_zero, List.set_cons_succ])
            | (show wpPlan _ _ _ _ ((false, _) :: _) _ _
               refine plan_skip_eff (later_refl _) rfl (by rfl) ?_
               simp only [Act.put, List.setIfInBounds_toArray, List.set_cons_zero, List.set_cons_succ])
            | (show wpPlan _ _ _ _ ((true, _) :: _) _ _
               refine plan_take (v := ?_) rfl (by rfl) (fun w' hw' => ?_) ?_
               rotate_left
               focus
                 go_simp
                 try with_reducible rfl
                 done
               simp only [Act.put, List.setIfInBounds_toArray, List.set_cons_zero, List.set_cons_succ]))
        refine plan_nil ?_
        go_wp2_with fail
        refine region_plan [(true, 0), (true, 1), (true, 2), (true, 3), (true, 4), (true, 5), (true, 6), (true, 7), (true, 8), (true, 9), (true, 10), (true, 11), (true, 12), (false, 13)] (Later fun _ => False) (later_refl _) (later_trans _) (by kernel_rfl) (by kernel_rfl) (fun _ _ d _ _ h => by cases d <;> exact h) ?_
        repeat
          (first
            | (show wpPlan _ _ _ _ ((true, _) :: _) _ _
               refine plan_skip rfl (by rfl) ?_
               simp only [Act.put, List.setIfInBounds_toArray, List.set_cons_zero, List.set_cons_succ])
            | (show wpPlan _ _ _ _ ((false, _) :: _) _ _
               refine plan_skip_eff (later_refl _) rfl (by rfl) ?_
               simp only [Act.put, List.setIfInBounds_toArray, List.set_cons_zero, List.set_cons_succ])
            | (show wpPlan _ _ _ _ ((true, _) :: _) _ _
               refine plan_take (v := ?_) rfl (by rfl) (fun w' hw' => ?_) ?_
               rotate_left
               focus
                 go_simp
                 try with_reducible rfl
                 done
               simp only [Act.put, List.setIfInBounds_toArray, List.set_cons_zero, List.set_cons_succ]))
        refine plan_eff_last (by kernel_rfl) rfl (by rfl) (fun K hK => ?_)
        go_wp2_with fail
        go_ret
        exact ⟨rfl, hfin.out (c.lost + 1) (by omega), ((Touch.refl (fun k => k = g) w).setCell (p := ⟨g, 1061, none⟩) rfl _).drew.drew⟩
      · rw [if_neg hmx]
        have hwr : IntKind.u64.wrap ((c.lost : Int) + 1) = 0 := by rw [show c.lost = 18446744073709551615 by omega]; rfl
        have hwl : (IntKind.u64.wrap ((c.lost : Int) + 1) ≤ (c.lost : Int)) = True := by rw [hwr]; simp
        clear hmx
        go_enter Try.func15, Try.ntmps15
        go_wp2_with fail
        refine region_plan [(true, 0), (true, 1), (true, 2), (true, 3), (true, 4), (true, 5), (true, 6), (true, 7), (true, 8)] (Later fun _ => False) (later_refl _) (later_trans _) (by kernel_rfl) (by kernel_rfl) (fun _ _ d _ _ h => by cases d <;> exact h) ?_
        repeat
          (first
            | (show wpPlan _ _ _ _ ((true, _) :: _) _ _
               refine plan_skip rfl (by rfl) ?_
               simp only [Act.put, List.setIfInBounds_toArray, List.set_cons_zero, List.set_cons_succ])
            | (show wpPlan _ _ _ _ ((false, _) :: _) _ _
               refine plan_skip_eff (later_refl _) rfl (by rfl) ?_
               simp only [Act.put, List.setIfInBounds_toArray, List.set_cons_zero, List.set_cons_succ])
            | (show wpPlan _ _ _ _ ((true, _) :: _) _ _
               refine plan_take (v := ?_) rfl (by rfl) (fun w' hw' => ?_) ?_
               rotate_left
               focus
                 go_simp
                 try with_reducible rfl
                 done
               simp only [Act.put, List.setIfInBounds_toArray, List.set_cons_zero, List.set_cons_succ]))
        refine plan_nil ?_
        go_wp2_with fail
        refine region_plan [(true, 0), (true, 1), (true, 2), (true, 3), (true, 4), (true, 5), (true, 6), (true, 7), (true, 8), (true, 9), (true, 10), (true, 11), (true, 12), (false, 13)] (Later fun _ => False) (later_refl _) (later_trans _) (by kernel_rfl) (by kernel_rfl) (fun _ _ d _ _ h => by cases d <;> exact h) ?_
        repeat
          (first
            | (show wpPlan _ _ _ _ ((true, _) :: _) _ _
               refine plan_skip rfl (by rfl) ?_
               simp only [Act.put, List.setIfInBounds_toArray, List.set_cons_zero, List.set_cons_succ])
            | (show wpPlan _ _ _ _ ((false, _) :: _) _ _
               refine plan_skip_eff (later_refl _) rfl (by rfl) ?_
               simp only [Act.put, List.setIfInBounds_toArray, List.set_cons_zero, List.set_cons_succ])
            | (show wpPlan _ _ _ _ ((true, _) :: _) _ _
               refine plan_take (v := ?_) rfl (by rfl) (fun w' hw' => ?_) ?_
               rotate_left
               focus
                 go_simp
                 try with_reducible rfl
                 done
               simp only [Act.put, List.setIfInBounds_toArray, List.set_cons_zero, List.set_cons_succ]))
        refine plan_eff_last (by kernel_rfl) rfl (by rfl) (fun K hK => ?_)
        go_wp2_with fail
        go_ret
        exact ⟨rfl, hfin.out _ hlost, ((Touch.refl (fun k => k = g) w).setCell (p := ⟨g, 1061, none⟩) rfl _).drew.drew⟩
  · have hfb : ((c.L.length : Int) == c.most) = false := by simpa using hfull
    have hs : sendC c l now = ({ c with L := c.L ++ [⟨l, now⟩] }, 0) := by unfold sendC; rw [if_neg hlen, if_neg hk, if_neg hfull]
    rw [hs]
    obtain ⟨hz, hzs⟩ := zMsg
    have hzl := hide zMsgOne
    generalize zeroCells Try.prog 80 = Z at *
    have hz0 : ¬ Z = #[] := by intro e; rw [e] at hzs; simp at hzs
    have hW : ChanAt w.drew g c := h'.out.later (F := fun _ => False) (later_drew _) (fun h => h)
    have hbW : Bs w.drew (.slice A l.length cp) l := hb'.out.later0 (later_drew _)
    have hW' := hide hW
    have hbW' := hide hbW
    clear hs hfull hW hbW h
    go_enter Try.func15, Try.ntmps15
    go_wp2_with fail
    refine region_plan [(true, 0), (true, 1), (true, 2), (true, 3), (true, 4), (true, 5), (true, 6), (true, 7), (true, 8)] (Later fun _ => False) (later_refl _) (later_trans _) (by kernel_rfl) (by kernel_rfl) (fun _ _ d _ _ h => by cases d <;> exact h) ?_
    repeat
      (first
        | (show wpPlan _ _ _ _ ((true, _) :: _) _ _
           refine plan_skip rfl (by rfl) ?_
           simp only [Act.put, List.setIfInBounds_toArray, List.set_cons_zero, List.set_cons_succ])
        | (show wpPlan _ _ _ _ ((false, _) :: _) _ _
           refine plan_skip_eff (later_refl _) rfl (by rfl) ?_
           simp only [Act.put, List.setIfInBounds_toArray, List.set_cons_zero, List.set_cons_succ])
        | (show wpPlan _ _ _ _ ((true, _) :: _) _ _
           refine plan_take (v := ?_) rfl (by rfl) (fun w' hw' => ?_) ?_
           rotate_left
           focus
             go_simp
             try with_reducible rfl
             done
           simp only [Act.put, List.setIfInBounds_toArray, List.set_cons_zero, List.set_cons_succ]))
    refine plan_nil ?_
    clear f0 f1 f60
    have hlt : (c.L.length : Int) < c.most := by have := h'.out.ok.len; simp at hfb; omega
    have hT0 : Touch (fun k => k = g) w (w.drew) := (Touch.refl _ _).drew
    have hT0' := hide hT0
    clear hT0
    generalize w.drew = W at *
    have hst := store_msg (P := Try.prog) W 80 Z hzl.out l.length now (by kernel_rfl)
    have hcp := copy_msg (P := Try.prog) W 80 30 30 3 5 A cp l now hbW'.out (by omega) Try.underlying30 (by kernel_rfl)
    go_wp2_with fail
    have hT := later_msg W 80 (msgZ l.length now).toArray (bytesV l)
    have hR := msg_new W 80 l now (by omega) (msgZ l.length now).toArray (by simp)
    have hh : W.heap.size < ((W.alloc (.cells (msgZ l.length now).toArray 80)).setCells W.heap.size 0 (bytesV l)).heap.size := by rw [heap_setCells_size]; simp
    generalize (W.alloc (.cells (msgZ l.length now).toArray 80)).setCells W.heap.size 0 (bytesV l) = W3 at *
    clear hst hcp
    have hC3 := hW'.out.later hT.2 (fun h => h)
    have f59 : ∀ w', Later (fun _ => False) W3.drew w' → w'.cell? ⟨g, 1059, none⟩ = some (.int .i64 c.first) := fun w' hl => (Later.cell (a := W3) hl hC3.lt (fun h => h)).1.trans hC3.first
    have f60 : ∀ w', Later (fun _ => False) W3.drew w' → w'.cell? ⟨g, 1060, none⟩ = some (.int .i64 c.L.length) := fun w' hl => (Later.cell (a := W3) hl hC3.lt (fun h => h)).1.trans hC3.n
    have hml := msgV_length ⟨l, now⟩ (by show l.length ≤ 64; omega)
    have fld := hide (fun w' (hl : Later (fun _ => False) W3.drew w') => range_later (F := fun _ => False) (w := W3) (w' := w') hl hh (fun h => h) hR)
    have hi1 : c.first < 16 := hC3.idx.1
    have hi2 : c.L.length ≤ 16 := hC3.idx.2
    obtain ⟨i, hi, hie⟩ : ∃ i, i < 16 ∧ i = (c.first + c.L.length) % 16 := ⟨_, Nat.mod_lt _ (by omega), rfl⟩
    have hmd : ChanAt W3.drew g c := hC3.later (F := fun _ => False) (later_drew _) (fun h => h)
    have hst := run_store_there (P := Try.prog) (w := W3.drew) (g := g) (o := 3 + i * 66) (vs := msgV ⟨l, now⟩) (by rw [hml]; exact hmd.there i hi) (msgV_one ⟨l, now⟩)
    obtain ⟨W4, hW4⟩ : ∃ W4, W4 = W3.drew.setCells g (3 + i * 66) (msgV ⟨l, now⟩) := ⟨_, rfl⟩
    have hn4 : W4.cell? ⟨g, 1060, none⟩ = some (.int .i64 c.L.length) := by
      rw [hW4, World.cell?_setCells_out g _ _ _ ⟨g, 1060, none⟩ (fun _ _ => by rw [hml]; right; show 3 + i * 66 + 66 ≤ 1060; omega)]; exact hmd.n
    have hz4 : W4.frozen? ⟨g, 1060, none⟩ = false := by rw [hW4, World.frozen?_setCells]; exact hmd.thaw _
    have hT4 : Touch (fun k => k = g) W3 W4 := by rw [hW4]; exact Touch.setCells (F := fun k => k = g) rfl _ _ (Touch.refl _ _).drew
    have hpush : ChanAt (W4.setCell ⟨g, 1060, none⟩ (.int .i64 ((c.L.length : Nat) + 1))) g { c with L := (c).L ++ [⟨l, now⟩] } := by
      rw [hW4, hie, Nat.mul_comm ((c.first + c.L.length) % 16) 66]
      exact hmd.push ⟨l, now⟩ (by show (l.length : Int) ≤ c.size; omega) hnow (by show (c.L.length : Int) < c.most; omega)
    rw [← hW4] at hst
    have hpush' := hide hpush
    have hT4' := hide hT4
    clear hpush hT4 hW4 hmd
    have hw1 : IntKind.i64.wrap ((c.first : Int) + (c.L.length : Int)) = ((c.first + c.L.length : Nat) : Int) := IntWalk.i64_in _ (by omega)
    have hw2 : (((c.first + c.L.length : Nat) : Int)).tmod 16 = (i : Int) := by rw [hie]; rfl
    have hie' := hide hie
    have hiI : (i : Int) < 16 := by omega
    have hi0 : (0 : Int) ≤ (i : Int) := by omega
    clear hie
    generalize c.first + c.L.length = sm at *
    have hC3' := hide hC3
    have hT' := hide hT
    clear hT hC3 hR
    generalize W.heap.size = hp at *
    refine region_plan [(true, 0), (true, 1), (true, 2), (true, 3), (true, 4), (true, 5), (true, 6), (true, 7), (true, 8), (true, 9), (true, 10), (true, 11), (true, 12), (true, 13), (true, 14), (false, 15)] (Later fun _ => False) (later_refl _) (later_trans _) (by kernel_rfl) (by kernel_rfl) (fun _ _ d _ _ h => by cases d <;> exact h) ?_
    repeat
      (first
        | (show wpPlan _ _ _ _ ((true, _) :: _) _ _
           refine plan_skip rfl (by rfl) ?_
           simp only [Act.put, List.setIfInBounds_toArray, List.set_cons_zero, List.set_cons_succ])
        | (show wpPlan _ _ _ _ ((false, _) :: _) _ _
           refine plan_skip_eff (later_refl _) rfl (by rfl) ?_
           simp only [Act.put, List.setIfInBounds_toArray, List.set_cons_zero, List.set_cons_succ])
        | (show wpPlan _ _ _ _ ((true, _) :: _) _ _
           refine plan_take (v := ?_) rfl (by rfl) (fun w' hw' => ?_) ?_
           rotate_left
           focus
             go_simp
             try with_reducible rfl
             done
           simp only [Act.put, List.setIfInBounds_toArray, List.set_cons_zero, List.set_cons_succ]))
    refine plan_take (v := .agg (msgV ⟨l, now⟩).toArray) rfl (by rfl) (fun w' hw' => exec_load_mid _ _ rfl _ _ rfl _ _ (fld.out w' hw') Try.underlying80 rfl (by rw [hml]; kernel_rfl)) ?_
    try simp only [Act.put, List.setIfInBounds_toArray, List.set_cons_zero, List.set_cons_succ]
    repeat
      (first
        | (show wpPlan _ _ _ _ ((true, _) :: _) _ _
           refine plan_skip rfl (by rfl) ?_
           simp only [Act.put, List.setIfInBounds_toArray, List.set_cons_zero, List.set_cons_succ])
        | (show wpPlan _ _ _ _ ((false, _) :: _) _ _
           refine plan_skip_eff (later_refl _) rfl (by rfl) ?_
           simp only [Act.put, List.setIfInBounds_toArray, List.set_cons_zero, List.set_cons_succ])
        | (show wpPlan _ _ _ _ ((true, _) :: _) _ _
           refine plan_take (v := ?_) rfl (by rfl) (fun w' hw' => ?_) ?_
           rotate_left
           focus
             go_simp
             try with_reducible rfl
             done
           simp only [Act.put, List.setIfInBounds_toArray, List.set_cons_zero, List.set_cons_succ]))
    refine plan_eff_last (by kernel_rfl) rfl (by rfl) (fun K hK => ?_)
    go_wp2_with fail
    go_ret
    exact ⟨rfl, hpush'.out, (hT0'.out.trans ((hT'.out.mono (fun k _ h => h.elim)).trans hT4'.out)).setCell rfl _⟩
end Go.Proofs.Ytkcjjogekkldkaa
