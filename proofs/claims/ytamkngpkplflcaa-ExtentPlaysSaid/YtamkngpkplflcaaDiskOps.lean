/- disk: small operations walked: in, sector, Has, Image, Power; how a disk in memory changes. -/
import Derived.Test.YtamkngpkplflcaaDiskNew
import Derived.Laws.CopyRow
namespace Go.Proofs.Ytamkngpkplflcaa
open Go.RowKit

section
variable {w w' : World} {g h : Nat} {vw vs : Value} {q : List Value} {d : Dk}
/-- flags turned -/
theorem DkAt.flag (a : DkAt w g h vw vs q d) (t : Later (fun x => x = g) w w') (z : ∀ j, w'.frozen? ⟨g, j, none⟩ = false) (off armed : Bool) (left : Int) (hl : I64 left)
    (c0 : w'.cell? ⟨g, 0, none⟩ = w.cell? ⟨g, 0, none⟩) (c1 : w'.cell? ⟨g, 1, none⟩ = w.cell? ⟨g, 1, none⟩) (c2 : w'.cell? ⟨g, 2, none⟩ = some (.bool off)) (c3 : w'.cell? ⟨g, 3, none⟩ = some (.bool armed))
    (c4 : w'.cell? ⟨g, 4, none⟩ = some (.int .i64 left)) (c5 : w'.cell? ⟨g, 5, none⟩ = w.cell? ⟨g, 5, none⟩) : DkAt w' g h vw vs q { d with off := off, armed := armed, left := left } := by
  refine ⟨Nat.lt_of_lt_of_le a.lt t.1, c0.trans a.c0, c1.trans a.c1, c2, c3, c4, c5.trans a.c5, z, own_later a.has t (fun b hb e => ?_), own_later a.ws t (fun b hb e => (a.d2 b hb).1 e), a.ql, fun i hi => ?_, own_later a.sv t (fun b hb e => (a.d3 b hb).1 e), a.d1, a.d2, a.d3, ⟨a.ok.n1, a.ok.n2, a.ok.len, a.ok.wt, hl⟩⟩
  · cases hb; exact a.d1 e.symm
  · obtain ⟨v, h1, h2, b, c, rfl, hg, hh, hw⟩ := a.qb i hi
    exact ⟨_, h1, h2.later t (fun b' hb' e => by cases hb'; exact hg e), b, c, rfl, hg, hh, hw⟩
/-- flags turned, nothing waits any more -/
theorem DkAt.clear (a : DkAt w g h vw vs q d) (t : Later (fun x => x = g) w w') (z : ∀ j, w'.frozen? ⟨g, j, none⟩ = false) (off armed : Bool) (left : Int) (hl : I64 left)
    (c0 : w'.cell? ⟨g, 0, none⟩ = w.cell? ⟨g, 0, none⟩) (c1 : w'.cell? ⟨g, 1, none⟩ = some (.slice none 0 0)) (c2 : w'.cell? ⟨g, 2, none⟩ = some (.bool off)) (c3 : w'.cell? ⟨g, 3, none⟩ = some (.bool armed))
    (c4 : w'.cell? ⟨g, 4, none⟩ = some (.int .i64 left)) (c5 : w'.cell? ⟨g, 5, none⟩ = w.cell? ⟨g, 5, none⟩) : DkAt w' g h (.slice none 0 0) vs [] { d with waits := [], off := off, armed := armed, left := left } := by
  refine ⟨Nat.lt_of_lt_of_le a.lt t.1, c0.trans a.c0, c1, c2, c3, c4, c5.trans a.c5, z, own_later a.has t (fun b hb e => ?_), World.ownsRow_nil _ _ _ _, rfl, fun i hi => absurd hi (Nat.not_lt_zero _), own_later a.sv t (fun b hb e => (a.d3 b hb).1 e), a.d1, fun b hb => (by cases hb), fun b hb => ⟨(a.d3 b hb).1, (a.d3 b hb).2.1, fun e => by cases e⟩, ⟨a.ok.n1, a.ok.n2, a.ok.len, fun w hw => absurd hw (by simp), hl⟩⟩
  cases hb; exact a.d1 e.symm
/-- the bytes turned -/
theorem DkAt.bytes (a : DkAt w g h vw vs q d) (t : Later (fun x => x = h) w w') (has : List UInt8) (hl : has.length = 64 * d.n)
    (ho : w'.ownsRow 0 5 1 (.slice (some ⟨h, 0, none⟩) (64 * d.n) (64 * d.n)) (64 * d.n) (bytesV has)) : DkAt w' g h vw vs q { d with has := has } := by
  have e := fun o => Later.cell t (o := o) a.lt a.d1
  refine ⟨Nat.lt_of_lt_of_le a.lt t.1, (e 0).1.trans a.c0, (e 1).1.trans a.c1, (e 2).1.trans a.c2, (e 3).1.trans a.c3, (e 4).1.trans a.c4, (e 5).1.trans a.c5, fun j => (e j).2.trans (a.thaw j), ho, own_later a.ws t (fun b hb e => (a.d2 b hb).2 e), a.ql, fun i hi => ?_, own_later a.sv t (fun b hb e => (a.d3 b hb).2.1 e), a.d1, a.d2, a.d3, ⟨a.ok.n1, a.ok.n2, hl, a.ok.wt, a.ok.left⟩⟩
  obtain ⟨v, h1, h2, b, c, rfl, hg, hh, hw⟩ := a.qb i hi
  exact ⟨_, h1, h2.later t (fun b' hb' e => by cases hb'; exact hh e), b, c, rfl, hg, hh, hw⟩
theorem DkAt.below (a : DkAt w g h vw vs q d) (t : Below w.heap.size w w') : DkAt w' g h vw vs q d := a.later (F := fun _ => False) (below_later t (Nat.le_refl _)) (fun _ _ h => h)
theorem DkAt.quiet (a : DkAt w g h vw vs q d) (t : Q w w') : DkAt w' g h vw vs q d := a.below (t.below _)
end

theorem list_of_take {α : Type} {l m : List α} (h : l.take m.length = m) (hl : l.length = m.length) : l = m := by rw [← h, List.take_of_length_le (by omega)]

/-- copy into a row of one's own, known to its end -/
theorem run_copy_own {P : Program} {w : World} {dT sT ty e : TypeId} (hu : P.underlying dT = some (.slice e)) (hs : (P.info? e).map (·.size) = some 1) {base h n : Nat} {xs : List Value} (ho : w.ownsRow base e 1 (.slice (some ⟨h, 0, none⟩) n n) n xs)
    (off m cap : Nat) (sv : Value) (cs : List Value) (hc : Sl w 1 sv m cs) (hm : off + m ≤ n) (h1 : ∀ v ∈ cs, v.oneCell' = true) :
    ∃ w', (Builtin.copy_ #[dT, sT] ty #[.slice (some ⟨h, off, none⟩) m cap, sv]).run P w = .ok (goInt m) w' ∧ w'.ownsRow base e 1 (.slice (some ⟨h, 0, none⟩) n n) n (xs.take off ++ cs ++ xs.drop (off + m)) ∧ Touch (fun x => x = h) w w' := by
  obtain ⟨A, c, rfl, k1, k2, k3, k4⟩ := hc
  rw [Nat.mul_one] at k3
  rcases Nat.eq_zero_or_pos m with hz | hp
  · subst hz
    have hcs : cs = [] := List.eq_nil_of_length_eq_zero k3
    subst hcs
    refine ⟨w, run_copy_none (P := P) w dT sT ty e _ _ _ _ _ _ hu hs (by simp), ?_, Touch.refl _ _⟩
    rw [List.append_nil, Nat.add_zero, List.take_append_drop]
    exact ho
  · obtain ⟨b, o, rfl, hb, hcell⟩ := k4 hp
    obtain ⟨h0, hx⟩ := ho
    rcases hx with ⟨hx, _⟩ | ⟨g, cp, cur, hv, hbg, hg, hnc, hcm, hcs, htk⟩
    · cases hx
    · injection hv with hv1 hv2 hv3
      injection hv1 with hv1
      injection hv1 with hv1
      subst hv1 hv3
      rw [Nat.mul_one] at h0 htk hcs
      have hcur : cur.toList = xs := list_of_take (by rw [h0]; exact htk) (by rw [h0, ← hcs]; simp)
      refine ⟨_, run_copy_row (P := P) w dT sT ty e h off m cap ⟨b, o, none⟩ m c cur e cs hu hs hg (by rw [k3]; simp) (fun j v hj => by rw [Addr.add_lit]; exact hcell j v hj) (by omega) h1 |>.trans (by rw [k3]), ⟨?_, .inr ⟨h, n, _, rfl, hbg, setRow_heap w h cur _ e _ hg, Nat.le_refl _, hcm, ?_, ?_⟩⟩, ⟨below_setRow' (Nat.zero_le _) _, by simp [World.setRow], fun k hk hf => setRow_other w h k _ hf⟩⟩
      · simp; omega
      · rw [hcur]; simp; omega
      · rw [hcur]
        simp only [Nat.mul_one]
        exact List.take_of_length_le (by simp; omega)
  where
  below_setRow' {B g : Nat} {w : World} (hBg : B ≤ g) (cs : Array Value) : Below B w (w.setRow g cs) := ⟨rfl, rfl, rfl, by simp [World.setRow], fun k hk => setRow_other w g k cs (by omega)⟩

theorem wp_copy_own {P : Program} {w : World} {o : Oper} {a : Act} {K : Act → World → Prop} {Q : Exit → Act → World → Prop} (dd s : Operand) {dT sT e : TypeId}
    (hop : o.op = .call { callee := .builtin .copy, args := #[dd, s], argTypes := #[dT, sT] }) (hu : P.underlying dT = some (.slice e)) (hs : (P.info? e).map (·.size) = some 1) {base h n : Nat} {xs : List Value} (ho : w.ownsRow base e 1 (.slice (some ⟨h, 0, none⟩) n n) n xs)
    (off m cap : Nat) (sv : Value) (cs : List Value) (hd : a.eval dd = .slice (some ⟨h, off, none⟩) m cap) (hsv : a.eval s = sv) (hc : Sl w 1 sv m cs) (hm : off + m ≤ n) (h1 : ∀ v ∈ cs, v.oneCell' = true)
    (hk : ∀ w', w'.ownsRow base e 1 (.slice (some ⟨h, 0, none⟩) n n) n (xs.take off ++ cs ++ xs.drop (off + m)) → Touch (fun x => x = h) w w' → K (a.put o.dst (goInt m)) w') : o.wp P a w K Q := by
  obtain ⟨w', hrun, h2, h3⟩ := run_copy_own (P := P) (sT := sT) (ty := o.type) hu hs ho off m cap sv cs hc hm h1
  unfold Oper.wp execOp
  simp only [hop, resolve, invoke, builtin, Sem.run_bind, Sem.run_pure, Result.andThen_ok, List.map_toArray, List.map_cons, List.map_nil, hd, hsv, hrun]
  exact hk w' h2 h3

theorem ret_slice {A : Option Addr} {n m c c' : Nat} (h : n = m) (h2 : c = c') : Ending.returned (.slice A n c) = .returned (.slice A m c') := by rw [h, h2]
def inB (d : Dk) (at_ : Int) : Bool := decide (0 ≤ at_ ∧ at_ < d.n)
set_option maxRecDepth 100000 in
theorem din_any (g h : Nat) (vw vs : Value) (q : List Value) (d : Dk) (at_ : Int) (w : World) (a : DkAt w g h vw vs q d) :
    Calls Try.prog 50 #[.pointer (some ⟨g, 0, none⟩), .int .i64 at_] w fun e w' => e = .returned (.bool (inB d at_)) ∧ w' = w := by
  have a' := hide a
  unfold inB
  clear a
  by_cases h0 : 0 ≤ at_
  · have e : decide (0 ≤ at_ ∧ at_ < (d.n : Int)) = decide (at_ < (d.n : Int)) := by simp [h0]
    rw [e]
    have e0 : decide (0 ≤ at_) = true := decide_eq_true h0
    clear e h0
    go_enter Try.func50, Try.ntmps50
    go_wp2_with fail
    refine (dsize_any g h vw vs q d w a'.out).mono ?_
    rintro e w1 ⟨rfl, rfl⟩
    go_wp2_with fail
    go_ret
    exact ⟨rfl, rfl⟩
  · have e : decide (0 ≤ at_ ∧ at_ < (d.n : Int)) = false := by simp [h0]
    rw [e]
    have e0 : decide (0 ≤ at_) = false := decide_eq_false h0
    clear e h0
    go_enter Try.func50, Try.ntmps50
    go_wp2_with fail
    go_ret
    exact ⟨rfl, rfl⟩

set_option maxRecDepth 100000 in
theorem dsector_any (g h : Nat) (vw vs : Value) (q : List Value) (d : Dk) (at_ : Nat) (hat : at_ < d.n) (w : World) (a : DkAt w g h vw vs q d) :
    Calls Try.prog 51 #[.pointer (some ⟨g, 0, none⟩), .int .i64 at_] w fun e w' => e = .returned (.slice (some ⟨h, 64 * at_, none⟩) 64 (64 * d.n - 64 * at_)) ∧ w' = w := by
  have c0 := a.c0
  have n2 := a.ok.n2
  clear a
  generalize d.n = n at *
  obtain ⟨m, hm⟩ : ∃ m, m = 64 * n := ⟨_, rfl⟩
  obtain ⟨k, hk⟩ : ∃ k, k = 64 * at_ := ⟨_, rfl⟩
  rw [← hm, ← hk]
  rw [← hm] at c0
  have e1 : (at_ : Int) * 64 = (k : Int) := by omega
  have e2 : ((at_ : Int) + 1) * 64 = (k : Int) + 64 := by omega
  have k1 : (k : Int) + 64 ≤ (m : Int) := by omega
  have k2 : ¬ m = k := by omega
  have b1 : at_ < 256 := by omega
  have b2 : m ≤ 16384 := by omega
  clear hm hk n2 hat
  go_enter Try.func51, Try.ntmps51
  go_wp2_with fail
  go_ret
  exact ⟨ret_slice (by omega) rfl, rfl⟩

theorem DkAt.hasB {w : World} {g h : Nat} {vw vs : Value} {q : List Value} {d : Dk} (a : DkAt w g h vw vs q d) : OwnB w 0 5 (.slice (some ⟨h, 0, none⟩) (64 * d.n) (64 * d.n)) d.has := by
  unfold OwnB
  rw [a.ok.len]
  exact a.has
theorem sector_length {d : Dk} (h : d.Ok) (at_ : Nat) (hat : at_ < d.n) : (d.sector at_).length = 64 := by
  unfold Dk.sector
  rw [List.length_take, List.length_drop, h.len]
  omega
theorem DkAt.sectorB {w : World} {g h : Nat} {vw vs : Value} {q : List Value} {d : Dk} (a : DkAt w g h vw vs q d) (at_ : Nat) (hat : at_ < d.n) : Bs w (.slice (some ⟨h, 64 * at_, none⟩) 64 (64 * d.n - 64 * at_)) (d.sector at_) := by
  have := (OwnB.bs a.hasB).sub (m := 64 * at_) (q := 64) (by rw [a.ok.len]; omega)
  simpa [Addr.add_lit, Dk.sector] using this

set_option maxRecDepth 100000 in
theorem dhas_ok (g h : Nat) (vw vs : Value) (q : List Value) (d : Dk) (at_ : Nat) (hat : at_ < d.n) (w : World) (a : DkAt w g h vw vs q d) :
    Calls Try.prog 18 #[.pointer (some ⟨g, 0, none⟩), .int .i64 at_] w fun e w' => ∃ v, e = .returned (.tuple #[v, .int .i64 0]) ∧ OwnB w' w.heap.size 5 v (d.sector at_) ∧ Below w.heap.size w w' := by
  have a' := hide a
  have hin := hide (show inB d at_ = true from decide_eq_true (by omega))
  have hsl := hide (sector_length a.ok at_ hat)
  have hsb := hide (a.sectorB at_ hat)
  clear a
  go_enter Try.func18, Try.ntmps18
  go_wp2_with fail
  refine (din_any g h vw vs q d at_ w a'.out).mono ?_
  rintro e w1 ⟨rfl, rfl⟩
  rw [hin.out]
  go_wp2_with fail
  refine (dsector_any g h vw vs q d at_ hat _ a'.out).mono ?_
  rintro e w1 ⟨rfl, rfl⟩
  go_wp2_with ((at_builtin; refine list_app_any elem_bytes rfl (.const (.slice none 0 0)) (.tmp 12) rfl w1.heap.size (.slice none 0 0) 0 [] rfl (World.ownsRow_nil _ _ _ _) (.slice (some ⟨h, 64 * at_, none⟩) 64 (64 * d.n - 64 * at_)) 64 (bytesV (d.sector at_)) rfl (by have := hsb.out; unfold Bs at this; rw [hsl.out] at this; exact this) (bytesV_one _) (by simp only [maxLen]; omega) (by omega) (Nat.le_refl _) ?_))
  intro v w2 hown hg hat2
  have hb : Below w1.heap.size w1 w2 := (Below.refl _ _).grown hg (Nat.le_refl _) (by simp [Value.ownBlock])
  have ho := hide (show OwnB w2 w1.heap.size 5 v (d.sector at_) by unfold OwnB; rw [hsl.out]; simpa using hown)
  have hb' := hide hb
  clear hown hg hat2 hb
  go_wp2_with fail
  go_ret2
  exact ⟨v, rfl, ho.out, hb'.out⟩
set_option maxRecDepth 100000 in
theorem dhas_bad (g h : Nat) (vw vs : Value) (q : List Value) (d : Dk) (at_ : Int) (hat : ¬ (0 ≤ at_ ∧ at_ < d.n)) (w : World) (a : DkAt w g h vw vs q d) :
    Calls Try.prog 18 #[.pointer (some ⟨g, 0, none⟩), .int .i64 at_] w fun e w' => e = .returned (.tuple #[.slice none 0 0, .int .i64 4]) ∧ w' = w := by
  have a' := hide a
  have hin := hide (show inB d at_ = false from decide_eq_false hat)
  clear a hat
  go_enter Try.func18, Try.ntmps18
  go_wp2_with fail
  refine (din_any g h vw vs q d at_ w a'.out).mono ?_
  rintro e w1 ⟨rfl, rfl⟩
  rw [hin.out]
  go_wp2_with fail
  go_ret2
  exact ⟨rfl, rfl⟩
set_option maxRecDepth 100000 in
theorem dimage_any (g h : Nat) (vw vs : Value) (q : List Value) (d : Dk) (w : World) (a : DkAt w g h vw vs q d) :
    Calls Try.prog 21 #[.pointer (some ⟨g, 0, none⟩)] w fun e w' => ∃ v, e = .returned v ∧ OwnB w' w.heap.size 5 v d.has ∧ Below w.heap.size w w' := by
  have a' := hide a
  have c0 := a.c0
  have hlen := hide a.ok.len
  have n2 := a.ok.n2
  clear a
  go_enter Try.func21, Try.ntmps21
  go_wp2_with ((at_builtin; refine list_app_any elem_bytes rfl (.const (.slice none 0 0)) (.tmp 6) rfl w.heap.size (.slice none 0 0) 0 [] rfl (World.ownsRow_nil _ _ _ _) (.slice (some ⟨h, 0, none⟩) (64 * d.n) (64 * d.n)) (64 * d.n) (bytesV d.has) rfl (Sl.own a'.out.has) (bytesV_one _) (by simp only [maxLen]; omega) (by omega) (Nat.le_refl _) ?_))
  intro v w2 hown hg hat2
  have hb : Below w.heap.size w w2 := (Below.refl _ _).grown hg (Nat.le_refl _) (by simp [Value.ownBlock])
  have ho := hide (show OwnB w2 w.heap.size 5 v d.has by unfold OwnB; rw [hlen.out]; simpa using hown)
  have hb' := hide hb
  clear hown hg hat2 hb
  go_wp2_with fail
  go_ret
  exact ⟨v, rfl, ho.out, hb'.out⟩

def Dk.power (d : Dk) : Dk := { d with waits := [], off := false, armed := false }
set_option maxRecDepth 100000 in
theorem dpower_any (g h : Nat) (vw vs : Value) (q : List Value) (d : Dk) (w : World) (a : DkAt w g h vw vs q d) :
    Calls Try.prog 45 #[.pointer (some ⟨g, 0, none⟩)] w fun e w' => e = .returned (.tuple #[]) ∧ DkAt w' g h (.slice none 0 0) vs [] d.power ∧ Touch (fun x => x = g) w w' := by
  have a' := hide a
  have c1 := a.c1
  have c2 := a.c2
  have c3 := a.c3
  have c4 := hide a.c4
  have t1 := a.thaw 1
  have t2 := a.thaw 2
  have t3 := a.thaw 3
  clear a
  go_enter Try.func45, Try.ntmps45
  go_wp2_with fail
  go_end0
  have hT : Touch (fun x => x = g) w (((w.setCell ⟨g, 1, none⟩ (.slice none 0 0)).setCell ⟨g, 2, none⟩ (.bool false)).setCell ⟨g, 3, none⟩ (.bool false)) := (((Touch.refl (fun x => x = g) w).setCell (p := ⟨g, 1, none⟩) rfl _).setCell (p := ⟨g, 2, none⟩) rfl _).setCell (p := ⟨g, 3, none⟩) rfl _
  refine ⟨rfl, ?_, hT⟩
  exact a'.out.clear hT.2 (fun j => by rw [World.frozen?_setCell, World.frozen?_setCell, World.frozen?_setCell]; exact a'.out.thaw j) false false d.left a'.out.ok.left (by simp [go_sem]) (by simp [go_sem, c1]) (by simp [go_sem, c2]) (by simp [go_sem, c3]) (by simp [go_sem, c4.out]) (by simp [go_sem])
end Go.Proofs.Ytamkngpkplflcaa
