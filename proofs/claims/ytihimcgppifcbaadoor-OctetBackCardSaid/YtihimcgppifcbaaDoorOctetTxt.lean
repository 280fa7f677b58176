/- octet.Text, the document's Text, nacellelaw02.same; a byte slice's part. -/
import Derived.Test.YtihimcgppifcbaaDoorOctetRd
import Derived.Lib.AppendStr
import Derived.Lib.ConvBytes
namespace Go.Proofs.YtihimcgppifcbaaDoor
open Go.RowKit

theorem str_size (l : List UInt8) : (ByteArray.mk l.toArray).size = l.length := by simp [ByteArray.size]
theorem strCells_bytes (l : List UInt8) : Lib.strCells ⟨l.toArray⟩ = bytesV l := by simp [Lib.strCells, bytesV]
/-- Text's bytes -/
def textV (l : List UInt8) : List UInt8 := if l.length ≤ 255 then UInt8.ofNat l.length :: l else []

/-- s[lo:hi] of a byte slice, whatever its capacity -/
theorem run_subB (A : Option Addr) (L c lo hi : Nat) (h1 : lo ≤ hi) (h2 : hi ≤ L) (hL : L ≤ c) (hc : c ≤ 9223372036854775807) :
    ∃ u, (∀ w' : World, (Instr.sliceAt 23 (.slice A L c) (some (.int .i64 lo)) (some (.int .i64 hi)) none).run Tryd.prog w' = .ok u w') ∧ ∀ w' l, Bs w' (.slice A L c) l → l.length = L → Bs w' u ((l.drop lo).take (hi - lo)) := by
  have ht : Tryd.prog.underlying 23 = some (.slice (Tryd.prog.elem 23)) := by kernel_rfl
  have hs : ∀ w, (sizeOf (Tryd.prog.elem 23)).run Tryd.prog w = .ok 1 w := fun _ => by kernel_rfl
  refine ⟨sliced A lo hi c 1, fun w' => ?_, fun w' l hb hl => ?_⟩
  · rw [run_sliceAt_slice (P := Tryd.prog) (h := ht), run_slice_lh w' 23 A L c ht .i64 .i64 lo hi (by omega) (by omega) (by omega), hs]
    rfl
  · unfold sliced
    by_cases e : c = lo
    · subst e
      obtain rfl : hi = c := by omega
      rw [if_pos rfl, Nat.sub_self, List.take_zero]
      exact Bs.empty_ _ _ _ (by omega)
    · rw [if_neg e, Nat.mul_one]
      have := hb.sub (m := lo) (q := hi - lo) (by omega)
      exact this

set_option maxRecDepth 100000 in
theorem same02_any (u v : Value) (l m : List UInt8) (w : World) (hu : Bs w u l) (hv : Bs w v m) :
    Calls Tryd.prog 28 #[u, v] w fun e w' => e = .returned (.bool (decide (l = m))) ∧ w' = w := by
  have h1 := run_str (P := Tryd.prog) 23 5 Tryd.underlying23 Tryd.underlying5 9 Tryd.underlying9 u l hu
  have h2 := run_str (P := Tryd.prog) 23 5 Tryd.underlying23 Tryd.underlying5 9 Tryd.underlying9 v m hv
  have h3 := strEq l m
  clear hu hv
  go_enter Tryd.func28, Tryd.ntmps28
  go_wp2
  go_ret
  exact ⟨ret_bool (by by_cases e : l = m <;> simp [e]), rfl⟩

theorem info_bytes : (Tryd.prog.info? 5).map (fun i => (i.zero, i.size, i.bytes)) = some (some (.int .u8 0), 1, 1) := by kernel_rfl
/-- append of a string to a byte slice of the call's own -/
theorem list_app_str {ops : Array Oper} {rest : List Oper} {o : Oper} {a : Act} {w : World} {Q : Exit → Act → World → Prop} (hgd : o.guard = none) (s x : Operand)
    (ho : o.op = .call { callee := .builtin .append, args := #[s, x], argTypes := #[23, 9] }) (base : Nat)
    (v : Value) (l : List UInt8) (hs : a.eval s = v) (hown : OwnB w base 5 v l) (m : List UInt8) (hx : a.eval x = .string ⟨m.toArray⟩)
    (hb : l.length + m.length ≤ 140737488355328) (hbase : base ≤ w.heap.size)
    (h : ∀ v' w', OwnB w' base 5 v' (l ++ m) → w.grownBy w' v.ownBlock → wpList Tryd.prog ops Q rest (a.put o.dst v') w') : wpList Tryd.prog ops Q (o :: rest) a w := by
  obtain ⟨i, h1, h2, h3, h4⟩ := info_parts info_bytes
  have hsz := str_size m
  refine Lib.wpList_append_own_string w hgd s x 23 9 ho base 5 i Tryd.underlying23 Tryd.underlying9 h1 h2 h3 h4 v l.length (bytesV l) hs hown ⟨m.toArray⟩ hx (by rw [hsz]; simp only [maxLen]; omega) (by rw [hsz]; omega) hbase (fun v' w' h1 h2 _ => h v' w' ?_ h2)
  rw [hsz, strCells_bytes, ← bytesV_append] at h1
  unfold OwnB
  rw [List.length_append]
  exact h1

set_option maxRecDepth 100000 in
theorem text_any (l : List UInt8) (w : World) (hl : l.length ≤ 9223372036854775807) :
    Calls Tryd.prog 31 #[.string ⟨l.toArray⟩] w fun e w' => ∃ v, e = .returned v ∧ OwnB w' w.heap.size 5 v (textV l) ∧ Below w.heap.size w w' := by
  have hsz := str_size l
  by_cases h : l.length ≤ 255
  · have e : textV l = UInt8.ofNat l.length :: l := if_pos h
    have e' := hide e
    have hn : ¬ (255 : Int) < (l.length : Int) := by omega
    have hsz' := hide hsz
    have h8 : ((l.length : Int) % 256) = ((l.length : Nat) : Int) := by omega
    clear e
    go_enter Tryd.func31, Tryd.ntmps31
    have hown : OwnB (w.alloc (.cells #[.int .u8 (l.length : Int)] 5)) w.heap.size 5 (.slice (some ⟨w.heap.size, 0, none⟩) 1 1) [UInt8.ofNat l.length] := by
      unfold OwnB bytesV
      simp only [List.map_cons, List.map_nil, List.length_cons, List.length_nil, toNat_ofNat8]
      rw [show ((l.length % 256 : Nat) : Int) = (l.length : Int) by omega]
      exact ⟨rfl, .inr ⟨_, 1, _, rfl, Nat.le_refl _, heap_alloc_new w _, by omega, by simp [maxLen], rfl, rfl⟩⟩
    have hown' := hide hown
    clear hown
    go_wp2_with ((at_builtin; refine list_app_str rfl (.tmp 9) (.tmp 10) rfl w.heap.size (.slice (some ⟨w.heap.size, 0, none⟩) 1 1) [UInt8.ofNat l.length] rfl hown'.out l rfl (by simp; omega) (by simp) ?_))
    intro v w1 ho hg
    have hb : Below w.heap.size w w1 := ((Below.refl _ _).alloc (Nat.le_refl _) _).grown hg (by simp) (by simp [Value.ownBlock])
    have hb' := hide hb
    have ho' := hide ho
    clear ho hg hb
    go_wp2
    go_ret
    exact ⟨_, rfl, by rw [e'.out]; exact ho'.out, hb'.out⟩
  · have e : textV l = [] := if_neg h
    have hn : (255 : Int) < (l.length : Int) := by omega
    rw [e]
    go_enter Tryd.func31, Tryd.ntmps31
    go_wp2
    go_ret
    exact ⟨_, rfl, World.ownsRow_nil _ _ _ _, Below.refl _ _⟩

theorem str_append (l m : List UInt8) : (ByteArray.mk l.toArray ++ ByteArray.mk m.toArray) = ⟨(l ++ m).toArray⟩ := by
  apply ByteArray.ext
  simp
/-- []byte(s) -/
theorem bs_world (w : World) (e : TypeId) (l : List UInt8) (hl : l.length ≤ 140737488355328) : Bs (Lib.bytesWorld w e ⟨l.toArray⟩) (.slice (some ⟨w.heap.size, 0, none⟩) l.length (grownCap w l.length 0 e)) l := by
  refine Bs.mk_ (grownCap_ge w l.length 0 e) ?_ (fun hp => ⟨_, 0, rfl, by rw [Lib.bytesWorld_size]; omega, fun i hi => ?_⟩)
  · have := grownCap_le_maxLen w l.length 0 e (by simp only [maxLen]; omega)
    unfold maxLen at this
    exact this
  · have := Lib.bytesWorld_cell w e ⟨l.toArray⟩ i (by rw [str_size]; exact hi)
    rw [Nat.zero_add, this]
    simp [List.getD, hi]
theorem below_world (w : World) (e : TypeId) (s : ByteArray) : Below w.heap.size w (Lib.bytesWorld w e s) :=
  ⟨rfl, rfl, rfl, by rw [Lib.bytesWorld_size]; omega, fun k hk => Lib.bytesWorld_at_old w e s k hk⟩

set_option maxRecDepth 100000 in
theorem refText_any (l : List UInt8) (w : World) (hl : l.length ≤ 9223372036854775807) :
    Calls Tryd.prog 32 #[.string ⟨l.toArray⟩] w fun e w' => ∃ v, e = .returned v ∧ Bs w' v (textV l) ∧ Below w.heap.size w w' := by
  have hsz := str_size l
  by_cases h : l.length ≤ 255
  · have e : textV l = UInt8.ofNat l.length :: l := if_pos h
    have e' := hide e
    have hn : ¬ (255 : Int) < (l.length : Int) := by omega
    have h8 : ((l.length : Int) % 256) = ((l.length : Nat) : Int) := by omega
    have kc := fun (w : World) (s : ByteArray) => Lib.run_convert_string_bytes (P := Tryd.prog) w 9 23 5 s Tryd.underlying9 Tryd.underlying23 Tryd.underlying5
    have kb := run_str (P := Tryd.prog) (w := w.alloc (.cells #[.int .u8 (l.length : Int)] 5)) 23 5 Tryd.underlying23 Tryd.underlying5 9 Tryd.underlying9 (.slice (some ⟨w.heap.size, 0, none⟩) 1 1) [UInt8.ofNat l.length] (Bs.lit w _ _ [UInt8.ofNat l.length] 1 rfl (by simp [bytesV]; omega) (by omega))
    clear e
    go_enter Tryd.func32, Tryd.ntmps32
    go_wp2
    go_ret
    have ea : (ByteArray.mk #[UInt8.ofNat l.length] ++ ByteArray.mk l.toArray) = ⟨(UInt8.ofNat l.length :: l).toArray⟩ := str_append [UInt8.ofNat l.length] l
    rw [ea, e'.out]
    refine ⟨_, rfl, ?_, ((Below.refl _ _).alloc (Nat.le_refl _) _).trans ((below_world _ _ _).mono (by simp))⟩
    have := bs_world (w.alloc (.cells #[.int .u8 (l.length : Int)] 5)) 5 (UInt8.ofNat l.length :: l) (by simp; omega)
    rw [← ea] at this ⊢
    simpa [Nat.add_comm] using this
  · have e : textV l = [] := if_neg h
    have hn : (255 : Int) < (l.length : Int) := by omega
    rw [e]
    go_enter Tryd.func32, Tryd.ntmps32
    go_wp2
    go_ret
    exact ⟨_, rfl, Bs.empty_ _ _ _ (by omega), Below.refl _ _⟩
end Go.Proofs.YtihimcgppifcbaaDoor
