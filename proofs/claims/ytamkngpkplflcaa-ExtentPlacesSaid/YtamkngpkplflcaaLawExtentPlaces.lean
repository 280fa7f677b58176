/- ExtentPlaces: whatever two extents, sectors and disk size are given, the law answers true and leaves its argument as it was. No condition beside the row's own. -/
import Derived.Test.YtamkngpkplflcaaExtPlacesWalk
import Derived.Test.YtamkngpkplflcaaOpen
namespace Go.Proofs.Ytamkngpkplflcaa.lawExtentPlaces
open Go.RowKit Go.WideShapes Go.ChangeShapes Go.ChangeAt

open Go.Deep
section
variable {H : Type} {enc : TypeId × Value → H} {P : Program} {w : World} {base : Nat} {spare : Nat → Bool} {held : Bool}
theorem two_ints {t : TypeId} {f0 f1 : Field} {fuel : Nat} {c0 c1 : Value} {x : DataW H × List MemPlace} (hs : P.underlying t = some (.struct #[f0, f1])) (hone : oneCellFields P #[f0, f1] = true)
    (h0 : P.underlying f0.type = some (.int .i64)) (h1 : P.underlying f1.type = some (.int .i64)) (h : DataW.trod enc P w base spare held fuel t [c0, c1] = some x) :
    ∃ a b, c0 = .int .i64 a ∧ c1 = .int .i64 b ∧ I64 a ∧ I64 b := by
  obtain ⟨xs, n, _, _, _, hlen, hg⟩ := DataW.trod_struct hs h
  obtain ⟨o0, k0⟩ := hone_of hone 0 f0 rfl
  obtain ⟨o1, k1⟩ := hone_of hone 1 f1 rfl
  match xs, hlen with
  | [y0, y1], _ =>
    have g0 := hg 0 f0 rfl
    have g1 := hg 1 f1 rfl
    rw [o0, k0] at g0
    rw [o1, k1] at g1
    obtain ⟨a, rfl, ha⟩ := trod_i64 (v := c0) h0 (by simpa using g0)
    obtain ⟨b, rfl, hb⟩ := trod_i64 (v := c1) h1 (by simpa using g1)
    exact ⟨a, b, rfl, rfl, ha, hb⟩
end

set_option maxRecDepth 100000 in
theorem contract (H : Type) (enc : TypeId × Value → H) (W : World) (base : Nat) (args : Array Value) (ds gs : List (DataW H)) (before : List MemPlace)
    (hval : ∀ (j : Nat) t v, Try.f4.params[j]? = some t → args[j]? = some v → Value.okWide Try.prog W .any base t v)
    (hW : DataW.Whole enc Try.prog Try.f4.params.toList Rows.extentPlacesSpec.vars false W args.toList ds gs before) :
    Calls Try.prog 4 args W fun e W' => ∃ v, e = .returned v ∧ Rows.extentPlacesSpec.post enc Try.prog Try.f4 false true false false W args v W' := by
  have hW' := hW
  obtain ⟨p, q, hA0, hV, rfl, hfz, hnd⟩ := hW
  have hA : DataW.TrodAll enc Try.prog W 0 (fun _ => true) true Try.f4.params.toList args.toList ds p := hA0
  rw [Try.params4] at hA hval
  obtain ⟨v0, vs0, d0, ds0, p0, q0, hargs, rfl, rfl, h0, r0⟩ := trodAll_cons hA
  obtain ⟨rfl, rfl, rfl⟩ := trodAll_nil r0
  obtain rfl : args = #[v0] := by cases args; simp_all
  obtain ⟨rfl, rfl⟩ := trodVars_none hV
  have hv0 := hval 0 _ v0 rfl rfl
  obtain ⟨cs, rfl, hsz⟩ := okWide_struct Try.underlying31 hv0
  obtain ⟨l⟩ := cs
  have hC : Try.prog.cellsOf 31 = 7 := by kernel_rfl
  have hC2 : Try.prog.cellsOf 25 = 2 := by kernel_rfl
  have hC1 : Try.prog.cellsOf 3 = 1 := by kernel_rfl
  obtain ⟨fuel, hf⟩ := h0
  obtain ⟨xs, n, _, _, _, hlen, hg⟩ := DataW.trod_struct Try.underlying31 hf
  obtain ⟨c0, c1, c2, c3, c4, c5, c6, rfl⟩ : ∃ c0 c1 c2 c3 c4 c5 c6, l = [c0, c1, c2, c3, c4, c5, c6] := by
    have hsz' : l.length = 7 := hsz.trans hC
    match l, hsz' with
    | [c0, c1, c2, c3, c4, c5, c6], _ => exact ⟨c0, c1, c2, c3, c4, c5, c6, rfl⟩
  obtain ⟨y0, y1, y2, y3, y4, rfl⟩ : ∃ y0 y1 y2 y3 y4, xs = [y0, y1, y2, y3, y4] := by
    match xs, hlen with
    | [y0, y1, y2, y3, y4], _ => exact ⟨y0, y1, y2, y3, y4, rfl⟩
  have g0 := part hg 0 25 0 2 rfl hC2
  have g1 := part hg 1 25 2 2 rfl hC2
  have g2 := part hg 2 3 4 1 rfl hC1
  have g3 := part hg 3 3 5 1 rfl hC1
  have g4 := part hg 4 3 6 1 rfl hC1
  obtain ⟨xf, xc, rfl, rfl, i1, i2⟩ := two_ints (c0 := c0) (c1 := c1) Try.underlying25 (by kernel_rfl) Try.underlying3 Try.underlying3 (by simpa [Value.cells] using g0)
  obtain ⟨yf, yc, rfl, rfl, i3, i4⟩ := two_ints (c0 := c2) (c1 := c3) Try.underlying25 (by kernel_rfl) Try.underlying3 Try.underlying3 (by simpa [Value.cells] using g1)
  obtain ⟨a, rfl, i5⟩ := trod_i64 (v := c4) Try.underlying3 (by simpa [Value.cells] using g2)
  obtain ⟨b, rfl, i6⟩ := trod_i64 (v := c5) Try.underlying3 (by simpa [Value.cells] using g3)
  obtain ⟨s, rfl, i7⟩ := trod_i64 (v := c6) Try.underlying3 (by simpa [Value.cells] using g4)
  have walk : Calls Try.prog 4 #[.agg #[.int .i64 xf, .int .i64 xc, .int .i64 yf, .int .i64 yc, .int .i64 a, .int .i64 b, .int .i64 s]] W fun e w' => e = .returned (.bool true) ∧ Below W.heap.size W w' := by
    exact extentPlaces_any xf xc yf yc a b s W i1 i2 i3 i4 i5 i6 i7
  refine walk.mono fun e W' ⟨he, hb⟩ => ?_
  subst he
  exact ⟨_, rfl, law_post laidOut (by rw [Try.params4]; intro t ht; simp only [List.mem_cons, List.not_mem_nil, or_false] at ht; rcases ht with rfl <;> exact ⟨by kernel_rfl, of_decide_eq_true (by kernel_rfl)⟩) rfl Try.underlying4 rfl rfl hW' hb⟩

set_option maxRecDepth 100000 in
theorem lifted (os : Os) (started : os.Started) (H : Type) (enc : TypeId × Value → H) (F : Stop.Interp) :
    ReturnsInHanded {} Try.checked os 4 .any ((OpenSpec.ofChange Rows.extentPlacesSpec).preRow enc Try.prog Try.f4 Rows.extentPlacesRow.domain false Rows.extentPlacesRow.laid) (((OpenSpec.ofChange Rows.extentPlacesSpec).at F).post enc Try.prog Try.f4 false true false false) := by
  refine returnsInHanded_of_row (C := Try.checked) (s := (OpenSpec.ofChange Rows.extentPlacesSpec)) own started (by kernel_rfl) Try.func4
    (witness_row_at (enc := enc) (C := Try.checked) false (World.holding Try.prog os ⟨#[], #[], []⟩) #[.agg #[.int .i64 0, .int .i64 0, .int .i64 0, .int .i64 0, .int .i64 0, .int .i64 0, .int .i64 0]] rfl (by kernel_rfl) (by kernel_rfl) (by kernel_rfl)
      (OpenSpec.preRow_of_cond 8 (x := ([.agg [.agg [.lit (.int .i64 0), .lit (.int .i64 0)], .agg [.lit (.int .i64 0), .lit (.int .i64 0)], .lit (.int .i64 0), .lit (.int .i64 0), .lit (.int .i64 0)]], [], [])) (by kernel_rfl) (by kernel_rfl) (fun k hk => by cases hk) (by kernel_rfl) (laid_none _))) ?_
  intro W base args ds gs before hval hW _ hk hsz hL hsh _
  exact contract H enc W base args ds gs before hval hW

theorem said : Rows.ExtentPlacesSaid :=
  OpenClaim.holds_of_cond 4 Try.f4 rfl rfl rfl rfl rfl rfl rfl ⟨rfl, rfl, rfl, rfl, rfl⟩ rfl rfl rfl rfl rfl (by kernel_rfl) Try.func4 (by kernel_rfl)
    (of_decide_eq_true (by kernel_rfl)) (by unfold Func.isWrapper; first | (rw [if_pos (by decide +kernel)]; kernel_rfl) | (rw [if_neg (by decide +kernel)]; exact ⟨rfl, rfl⟩))
    (fun os started H enc _ F => by rw [OpenClaim.pre_eq_preRow]; exact lifted os started H enc F)
#print axioms said

end Go.Proofs.Ytamkngpkplflcaa.lawExtentPlaces
