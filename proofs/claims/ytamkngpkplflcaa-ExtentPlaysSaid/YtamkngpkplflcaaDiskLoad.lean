/- disk.Load walked; Waiting of a disk on which nothing waits. -/
import Derived.Test.YtamkngpkplflcaaDiskDsk
namespace Go.Proofs.Ytamkngpkplflcaa
open Go.RowKit

theorem list_copy_own {P : Program} {w : World} {ops : Array Oper} {rest : List Oper} {o : Oper} {a : Act} {Q : Exit → Act → World → Prop} (hgd : o.guard = none) (dd s : Operand) {dT sT e : TypeId}
    (hop : o.op = .call { callee := .builtin .copy, args := #[dd, s], argTypes := #[dT, sT] }) (hu : P.underlying dT = some (.slice e)) (hs : (P.info? e).map (·.size) = some 1) {base h n : Nat} {xs : List Value} (ho : w.ownsRow base e 1 (.slice (some ⟨h, 0, none⟩) n n) n xs)
    (off m cap : Nat) (sv : Value) (cs : List Value) (hd : a.eval dd = .slice (some ⟨h, off, none⟩) m cap) (hsv : a.eval s = sv) (hc : Sl w 1 sv m cs) (hm : off + m ≤ n) (h1 : ∀ v ∈ cs, v.oneCell' = true)
    (hk : ∀ w', w'.ownsRow base e 1 (.slice (some ⟨h, 0, none⟩) n n) n (xs.take off ++ cs ++ xs.drop (off + m)) → Touch (fun x => x = h) w w' → wpList P ops Q rest (a.put o.dst (goInt m)) w') : wpList P ops Q (o :: rest) a w :=
  wpList_plain hgd fun _ hK => wp_copy_own dd s hop hu hs ho off m cap sv cs hd hsv hc hm h1 fun w' h2 h3 => hK _ _ (hk w' h2 h3)
def Dk.load (d : Dk) (b : List UInt8) : Dk × Int := if b.length ≠ 64 * d.n then (d, 1) else ({ d with has := b, waits := [] }, 0)
set_option maxRecDepth 100000 in
set_option maxHeartbeats 1000000 in
theorem dload_ok (g h : Nat) (vw vs : Value) (q : List Value) (d : Dk) (bv : Value) (b : List UInt8) (hb : b.length = 64 * d.n) (w : World) (a : DkAt w g h vw vs q d) (hbs : Bs w bv b) :
    Calls Try.prog 58 #[.pointer (some ⟨g, 0, none⟩), bv] w fun e w' => e = .returned (.int .i64 0) ∧ DkAt w' g h (.slice none 0 0) vs [] { d with has := b, waits := [] } ∧ Touch (fun x => x = g ∨ x = h) w w' := by
  have a' := hide a
  have c0 := a.c0
  have hn := a.ok.n2
  obtain ⟨BA, bc, rfl, hbc1, hbc2, _⟩ := hbs.open_
  have hbs' := hide hbs
  rw [hb] at hbc1 ⊢
  have hbs2 := hide (show Sl w 1 (.slice BA (64 * d.n) bc) (64 * d.n) (bytesV b) by rw [← hb]; exact hbs)
  clear a hbs
  have hd1 : (64 * (d.n : Int) == 64 * (d.n : Int)) = true := by simp
  go_enter Try.func58, Try.ntmps58
  go_wp2_with ((refine list_copy_own rfl (.tmp 16) (.tmp 17) rfl Try.underlying40 elem_size1 a'.out.has 0 (64 * d.n) (64 * d.n) (.slice BA (64 * d.n) bc) (bytesV b) rfl rfl hbs2.out (by omega) (bytesV_one _) ?_))
  intro w' h2 h3
  have h2' : w'.ownsRow 0 5 1 (.slice (some ⟨h, 0, none⟩) (64 * d.n) (64 * d.n)) (64 * d.n) (bytesV b) := by
    have e : bytesV b ++ (bytesV d.has).drop (64 * d.n) = bytesV b := by
      rw [List.drop_of_length_le (by rw [bytesV_length, a'.out.ok.len]; omega), List.append_nil]
    rw [e] at h2
    exact h2
  have aB := a'.out.bytes h3.2 b hb h2'
  have aB' := hide aB
  have h3' := hide h3
  have y1 := aB.c1
  have y2 := hide aB.c2
  have y3 := hide aB.c3
  have y4 := hide aB.c4
  have t1 := aB.thaw 1
  obtain ⟨W, cw, hvw, _, _, _⟩ := Sl.own aB.ws
  clear aB h2 h2' h3 c0
  go_wp2_with fail
  go_ret
  have hT : Touch (fun x => x = g) w' (w'.setCell ⟨g, 1, none⟩ (.slice none 0 0)) := (Touch.refl (fun x => x = g) w').setCell (p := ⟨g, 1, none⟩) rfl _
  refine ⟨rfl, ?_, (h3'.out.mono (fun _ _ e => .inr e)).trans (hT.mono (fun _ _ e => .inl e))⟩
  exact aB'.out.clear hT.2 (fun j => by rw [World.frozen?_setCell]; exact aB'.out.thaw j) d.off d.armed d.left a'.out.ok.left (by simp [go_sem]) (by simp [go_sem, y1]) (by simp [go_sem, y2.out]) (by simp [go_sem, y3.out]) (by simp [go_sem, y4.out]) (by simp [go_sem])
set_option maxRecDepth 100000 in
theorem dload_bad (g h : Nat) (vw vs : Value) (q : List Value) (d : Dk) (bv : Value) (b : List UInt8) (hb : b.length ≠ 64 * d.n) (w : World) (a : DkAt w g h vw vs q d) (hbs : Bs w bv b) :
    Calls Try.prog 58 #[.pointer (some ⟨g, 0, none⟩), bv] w fun e w' => e = .returned (.int .i64 1) ∧ w' = w := by
  have c0 := a.c0
  have hn := a.ok.n2
  obtain ⟨BA, bc, rfl, hbc1, hbc2, _⟩ := hbs.open_
  clear a hbs
  have hd1 : ((b.length : Int) == 64 * (d.n : Int)) = false := by simp; omega
  have hd2 : decide ((b.length : Int) = 64 * (d.n : Int)) = false := decide_eq_false (by omega)
  go_enter Try.func58, Try.ntmps58
  go_wp2_with fail
  go_ret
  exact ⟨rfl, rfl⟩
theorem Dsk.load_ {g : Nat} {B : Nat → Prop} {d : Dk} {w : World} (a : Dsk w g B d) (bv : Value) (b : List UInt8) (hbs : Bs w bv b) :
    Calls Try.prog 58 #[.pointer (some ⟨g, 0, none⟩), bv] w fun e w' => e = .returned (.int .i64 (d.load b).2) ∧ Dsk w' g B (d.load b).1 ∧ Touch B w w' := by
  obtain ⟨h, vw, vs, q, a, hB⟩ := a
  unfold Dk.load
  by_cases hb : b.length = 64 * d.n
  · rw [if_neg (by simpa using hb)]
    refine (dload_ok g h vw vs q d bv b hb w a hbs).mono ?_
    rintro e w' ⟨rfl, h1, h2⟩
    refine ⟨rfl, ⟨h, _, vs, [], h1, fun x hx => ?_⟩, h2.mono (fun x _ hx => by rcases hx with hx | hx; exact hB x (.inl hx); exact hB x (.inr (.inl hx)))⟩
    rcases hx with hx | hx | hx | hx | ⟨v, hv, _⟩
    · exact hB x (.inl hx)
    · exact hB x (.inr (.inl hx))
    · cases hx
    · exact hB x (.inr (.inr (.inr (.inl hx))))
    · cases hv
  · rw [if_pos hb]
    refine (dload_bad g h vw vs q d bv b hb w a hbs).mono ?_
    rintro e w' ⟨rfl, rfl⟩
    exact ⟨rfl, ⟨h, vw, vs, q, a, hB⟩, Touch.refl _ _⟩
set_option maxRecDepth 100000 in
theorem Dsk.waiting_nil {g : Nat} {B : Nat → Prop} {d : Dk} {w : World} (a : Dsk w g B d) (hw : d.waits = []) :
    Calls Try.prog 30 #[.pointer (some ⟨g, 0, none⟩)] w fun e w' => e = .returned (.slice none 0 0) ∧ w' = w := by
  obtain ⟨h, vw, vs, q, a, hB⟩ := a
  have c1 := a.c1
  obtain ⟨W, cw, hvw, _, _, _⟩ := Sl.own a.ws
  rw [hvw, hw] at c1
  clear a
  go_enter Try.func30, Try.ntmps30
  go_wp2_with fail
  go_loopw [3, 11] (fun o i wr => o = .slice none 0 0 ∧ i = .int .i64 0 ∧ wr = w) (fun _ _ _ => 0)
  case atStart => exact ⟨rfl, rfl, rfl⟩
  case round =>
    obtain ⟨rfl, rfl, rfl⟩ := hrel
    go_wp2_with fail
    go_ret
    exact ⟨rfl, rfl⟩
end Go.Proofs.Ytamkngpkplflcaa
