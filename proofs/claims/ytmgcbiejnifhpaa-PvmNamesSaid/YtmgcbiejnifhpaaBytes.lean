/- Slices that read as lists of cells, byte slices above all: kept, cut, appended to. Plain laws; no function of the program in sight. -/
import Derived.Test.YtmgcbiejnifhpaaMono
import Derived.Maps.AppendAt
namespace Go.Proofs.Ytmgcbiejnifhpaa
open Go.RowKit

/-- The slice value v reads as n elements whose cells are xs. -/
def Sl (w : World) (size : Nat) (v : Value) (n : Nat) (xs : List Value) : Prop :=
  ∃ A c, v = .slice A n c ∧ n ≤ c ∧ c ≤ maxLen ∧ xs.length = n * size ∧
    (0 < n → ∃ b off, A = some ⟨b, off, none⟩ ∧ b < w.heap.size ∧ ∀ j u, xs[j]? = some u → w.cell? ⟨b, off + j, none⟩ = some u)

theorem Sl.nil (w : World) (size : Nat) : Sl w size (.slice none 0 0) 0 [] := ⟨none, 0, rfl, Nat.le_refl _, Nat.zero_le _, by simp, fun h => absurd h (by omega)⟩

theorem Sl.kept {w w' : World} {size n : Nat} {v : Value} {xs : List Value} (h : Sl w size v n xs) (hs : w.heap.size ≤ w'.heap.size) (hk : ∀ b, v.ownBlock = some b → b < w.heap.size → w'.heap[b]? = w.heap[b]?) : Sl w' size v n xs := by
  obtain ⟨A, c, rfl, h1, h2, h3, h4⟩ := h
  refine ⟨A, c, rfl, h1, h2, h3, fun hn => ?_⟩
  obtain ⟨b, off, rfl, hb, hc⟩ := h4 hn
  exact ⟨b, off, rfl, by omega, fun j u hu => (World.cell?_of_block (w := w) (a := ⟨b, off + j, none⟩) (hk b rfl hb)).trans (hc j u hu)⟩
theorem Sl.below {w w' : World} {size n : Nat} {v : Value} {xs : List Value} (h : Sl w size v n xs) (hb : Below w.heap.size w w') : Sl w' size v n xs :=
  h.kept hb.size fun b _ hlt => hb.block b hlt
theorem Sl.grown {w w' : World} {size n : Nat} {v : Value} {xs : List Value} {row : Option Nat} (h : Sl w size v n xs) (hg : w.grownBy w' row) (hr : ∀ b, v.ownBlock = some b → some b ≠ row) : Sl w' size v n xs :=
  h.kept hg.size fun b hb hlt => hg.block b hlt (hr b hb)
theorem Sl.own {w : World} {base : Nat} {e : TypeId} {size n : Nat} {v : Value} {xs : List Value} (h : w.ownsRow base e size v n xs) : Sl w size v n xs := by
  rcases h.2 with ⟨rfl, rfl⟩ | ⟨g, cap, cur, rfl, hg, hh, hn, hm, hsz, hc⟩
  · exact ⟨none, 0, rfl, Nat.le_refl _, Nat.zero_le _, h.1, fun hn => absurd hn (by omega)⟩
  · refine ⟨_, _, rfl, hn, hm, h.1, fun _ => ⟨g, 0, rfl, (h.lt g rfl).2, fun j u hu => ?_⟩⟩
    have := h.cells (g := g) rfl j u hu
    rw [Addr.add_lit] at this
    exact this
theorem Sl.len {w : World} {size n : Nat} {v : Value} {xs : List Value} (h : Sl w size v n xs) : xs.length = n * size := by
  obtain ⟨_, _, _, _, _, h3, _⟩ := h
  exact h3

section
variable {P : Program} {w : World} {t e : TypeId} {size bytes : Nat}

theorem run_app_any (E : Elem P t e size bytes) (ty : TypeId) (base : Nat) (v : Value) (n : Nat) (xs : List Value) (hown : w.ownsRow base e size v n xs)
    (x : Value) (m : Nat) (news : List Value) (hx : Sl w size x m news) (h1 : ∀ u ∈ news, u.oneCell' = true) (h63 : n + m ≤ maxLen) (hbytes : (n + m) * bytes ≤ 140737488355328) (hbase : base ≤ w.heap.size) :
    ∃ v' w', (Builtin.append_ #[t, t] ty #[v, x]).run P w = .ok v' w' ∧ w'.ownsRow base e size v' (n + m) (xs ++ news) ∧ w.grownBy w' v.ownBlock ∧ (v'.ownBlock = v.ownBlock ∨ v'.ownBlock = some w.heap.size) := by
  obtain ⟨i, z, hi, hz, hsize, hby, hzs⟩ := E.hi
  obtain ⟨A, c, rfl, hmc, hc, hl, hcells⟩ := hx
  rcases A with _ | ad
  · have hm : m = 0 := by
      rcases Nat.eq_zero_or_pos m with h0 | h0
      · exact h0
      · obtain ⟨b, off, h, _⟩ := hcells h0
        cases h
    subst hm
    have hn : news = [] := List.eq_nil_of_length_eq_zero (by simpa using hl)
    subst hn
    refine ⟨v, w, ?_, by simpa using hown, World.grownBy.refl w _, .inl rfl⟩
    rcases hown.2 with ⟨rfl, rfl⟩ | ⟨g, cap, cur, rfl, _, _, hnc, _⟩
    · simp [Builtin.append_, run_underlying E.ht, sizeOf, typeInfo, hi, Builtin.lenOf, Builtin.firstCells]
    · simp [Builtin.append_, run_underlying E.ht, sizeOf, typeInfo, hi, Builtin.lenOf, Builtin.firstCells, hnc, storeCells]
  · have hcs : ∀ j u, news[j]? = some u → w.cell? (ad.add j) = some u := by
      intro j u hu
      rcases Nat.eq_zero_or_pos m with h0 | h0
      · subst h0
        have hn : news = [] := List.eq_nil_of_length_eq_zero (by simpa using hl)
        subst hn
        simp at hu
      · obtain ⟨b, off, h, _, hc'⟩ := hcells h0
        injection h with h
        subst h
        rw [Addr.add_lit]
        exact hc' j u hu
    obtain ⟨v', w', hrun, h2, h3, _, h5⟩ := run_append_own_at (P := P) w base t ty e i z size bytes E.ht hi hz hsize hby hzs E.pos v n xs hown ad m c news hl hcs h1 h63 hbytes hbase
    exact ⟨v', w', hrun, h2, h3, h5⟩

theorem wp_app_any (E : Elem P t e size bytes) {o : Oper} {a : Act} {K : Act → World → Prop} {Q : Exit → Act → World → Prop} (s x : Operand)
    (ho : o.op = .call { callee := .builtin .append, args := #[s, x], argTypes := #[t, t] }) (base : Nat)
    (v : Value) (n : Nat) (xs : List Value) (hs : a.eval s = v) (hown : w.ownsRow base e size v n xs)
    (xv : Value) (m : Nat) (news : List Value) (hxv : a.eval x = xv) (hx : Sl w size xv m news) (h1 : ∀ u ∈ news, u.oneCell' = true)
    (h63 : n + m ≤ maxLen) (hbytes : (n + m) * bytes ≤ 140737488355328) (hbase : base ≤ w.heap.size)
    (h : ∀ v' w', w'.ownsRow base e size v' (n + m) (xs ++ news) → w.grownBy w' v.ownBlock → (v'.ownBlock = v.ownBlock ∨ v'.ownBlock = some w.heap.size) → K (a.put o.dst v') w') : o.wp P a w K Q := by
  obtain ⟨v', w', hrun, h2, h3, h4⟩ := run_app_any (P := P) E o.type base v n xs hown xv m news hx h1 h63 hbytes hbase
  unfold Oper.wp execOp
  simp only [ho, resolve, invoke, builtin, Sem.run_bind, Sem.run_pure, Result.andThen_ok, List.map_toArray, List.map_cons, List.map_nil, hs, hxv, hrun]
  exact h v' w' h2 h3 h4

theorem list_app_any (E : Elem P t e size bytes) {ops : Array Oper} {rest : List Oper} {o : Oper} {a : Act} {Q : Exit → Act → World → Prop} (hgd : o.guard = none) (s x : Operand)
    (ho : o.op = .call { callee := .builtin .append, args := #[s, x], argTypes := #[t, t] }) (base : Nat)
    (v : Value) (n : Nat) (xs : List Value) (hs : a.eval s = v) (hown : w.ownsRow base e size v n xs)
    (xv : Value) (m : Nat) (news : List Value) (hxv : a.eval x = xv) (hx : Sl w size xv m news) (h1 : ∀ u ∈ news, u.oneCell' = true)
    (h63 : n + m ≤ maxLen) (hbytes : (n + m) * bytes ≤ 140737488355328) (hbase : base ≤ w.heap.size)
    (h : ∀ v' w', w'.ownsRow base e size v' (n + m) (xs ++ news) → w.grownBy w' v.ownBlock → (v'.ownBlock = v.ownBlock ∨ v'.ownBlock = some w.heap.size) → wpList P ops Q rest (a.put o.dst v') w') : wpList P ops Q (o :: rest) a w :=
  wpList_plain hgd fun _ hK => wp_app_any E s x ho base v n xs hs hown xv m news hxv hx h1 h63 hbytes hbase fun v' w' h2 h3 h4 => hK _ _ (h v' w' h2 h3 h4)

theorem step_app_any (E : Elem P t e size bytes) {ops : Array Oper} {o : Oper} {a : Act} {K : Act → World → Prop} {Q : Exit → Act → World → Prop} {E' : Prop} (hgd : o.guard = none) (s x : Operand)
    (ho : o.op = .call { callee := .builtin .append, args := #[s, x], argTypes := #[t, t] }) (base : Nat)
    (v : Value) (n : Nat) (xs : List Value) (hs : a.eval s = v) (hown : w.ownsRow base e size v n xs)
    (xv : Value) (m : Nat) (news : List Value) (hxv : a.eval x = xv) (hx : Sl w size xv m news) (h1 : ∀ u ∈ news, u.oneCell' = true)
    (h63 : n + m ≤ maxLen) (hbytes : (n + m) * bytes ≤ 140737488355328) (hbase : base ≤ w.heap.size)
    (h : ∀ v' w', w'.ownsRow base e size v' (n + m) (xs ++ news) → w.grownBy w' v.ownBlock → (v'.ownBlock = v.ownBlock ∨ v'.ownBlock = some w.heap.size) → K (a.put o.dst v') w') :
    if Region.wanted o (yielded ops a.tmps) = true then Oper.wp P o a w K Q else E' := by
  have hw : Region.wanted o (yielded ops a.tmps) = true := by simp [Region.wanted, hgd]
  rw [if_pos hw]
  exact wp_app_any E s x ho base v n xs hs hown xv m news hxv hx h1 h63 hbytes hbase h
end

/-- make([]T, n) of one-cell elements: n zeros are owned. -/
theorem list_make {P : Program} {w : World} {t e : TypeId} {z : Value} {bytes : Nat} (ht : P.underlying t = some (.slice e)) (hinf : (P.info? e).map (fun i => (i.zero, i.size, i.bytes)) = some (some z, 1, bytes)) (hzc : z.cells = #[z])
    {ops : Array Oper} {rest : List Oper} {o : Oper} {a : Act} {Q : Exit → Act → World → Prop} (hg : o.guard = none) (l c : Operand) (hop : o.op = Op.makeSlice t l c)
    (base : Nat) (kl kc : IntKind) (L C : Int) (n : Nat) (hl : a.eval l = .int kl L) (hc : a.eval c = .int kc C) (hL : L = (n : Int)) (hC : C = (n : Int)) (b2 : bytes * n ≤ 281474976710656) (b3 : n ≤ maxLen) (b4 : base ≤ w.heap.size)
    (hK : ∀ w', w'.ownsRow base e 1 (.slice (some ⟨w.heap.size, 0, none⟩) n n) n (List.replicate n z) → w.grownBy w' none → w.heap.size < w'.heap.size → wpList P ops Q rest (a.put o.dst (.slice (some ⟨w.heap.size, 0, none⟩) n n)) w') :
    wpList P ops Q (o :: rest) a w := by
  obtain ⟨i, h1, h2, h3, h4⟩ := info_parts hinf
  refine wpList_make_full w hg l c t hop base e i z 1 ht h1 h2 h3 kl kc L C n hl hc hL hC (by rw [h4]; exact b2) b3 b4 (fun w' hown hgr => ?_)
  rw [hzc, Nat.mul_one, toList_madeCells_one] at hown
  exact hK w' hown hgr (hown.lt _ rfl).2

/-- bytes as cells -/
def bytesV (l : List UInt8) : List Value := l.map fun c => .int .u8 c.toNat
theorem bytesV_length (l : List UInt8) : (bytesV l).length = l.length := by simp [bytesV]
theorem bytesV_append (l m : List UInt8) : bytesV (l ++ m) = bytesV l ++ bytesV m := by simp [bytesV]
theorem bytesV_one (l : List UInt8) : ∀ u ∈ bytesV l, u.oneCell' = true := by
  intro u hu
  obtain ⟨c, _, rfl⟩ := List.mem_map.1 hu
  rfl
theorem bytesV_get (l : List UInt8) (i : Nat) (h : i < l.length) : (bytesV l)[i]? = some (.int .u8 (l[i].toNat)) := by simp [bytesV, h]

/-- a byte slice that reads l -/
def Bs (w : World) (v : Value) (l : List UInt8) : Prop := Sl w 1 v l.length (bytesV l)
theorem Bs.below {w w' : World} {v : Value} {l : List UInt8} (h : Bs w v l) (hb : Below w.heap.size w w') : Bs w' v l := Sl.below h hb
theorem Bs.later {w w' : World} {v : Value} {l : List UInt8} {F : Nat → Prop} (h : Bs w v l) (hb : Later F w w') (hF : ∀ b, v.ownBlock = some b → ¬ F b) : Bs w' v l := Sl.kept h hb.1 fun b hv hlt => hb.2 b hlt (hF b hv)
theorem Bs.later0 {w w' : World} {v : Value} {l : List UInt8} (h : Bs w v l) (hb : Later (fun _ => False) w w') : Bs w' v l := h.later hb fun _ _ h => h
theorem Bs.later' {w w' : World} {v : Value} {l : List UInt8} {F : Nat → Prop} (h : Bs w v l) (hb : Later F w w') (hF : l ≠ [] → ∀ b, v.ownBlock = some b → ¬ F b) : Bs w' v l := by
  by_cases hl : l = []
  · subst hl
    obtain ⟨A, c, hv, h1, h2, h3, _⟩ := h
    exact ⟨A, c, hv, h1, h2, h3, fun h => absurd h (by simp)⟩
  · exact h.later hb (hF hl)
theorem Bs.lt {w : World} {v : Value} {l : List UInt8} (h : Bs w v l) (hl : l ≠ []) : ∀ b, v.ownBlock = some b → b < w.heap.size := by
  obtain ⟨A, c, rfl, _, _, _, h4⟩ := h
  obtain ⟨b, off, rfl, hb, _⟩ := h4 (List.length_pos_iff.2 hl)
  intro b' hb'
  cases hb'
  exact hb
theorem Bs.q {w w' : World} {v : Value} {l : List UInt8} (h : Bs w v l) (hq : Q w w') : Bs w' v l := h.below (hq.below _)
theorem Bs.open_ {w : World} {v : Value} {l : List UInt8} (h : Bs w v l) : ∃ A c, v = .slice A l.length c ∧ l.length ≤ c ∧ c ≤ 9223372036854775807 ∧
    (0 < l.length → ∃ b off, A = some ⟨b, off, none⟩ ∧ b < w.heap.size ∧ ∀ i (h : i < l.length), w.cell? ⟨b, off + i, none⟩ = some (.int .u8 (l[i].toNat))) := by
  obtain ⟨A, c, hv, h1, h2, _, h4⟩ := h
  refine ⟨A, c, hv, h1, by unfold maxLen at h2; exact h2, fun hn => ?_⟩
  obtain ⟨b, off, hA, hb, hc⟩ := h4 hn
  exact ⟨b, off, hA, hb, fun i hi => hc i _ (bytesV_get l i hi)⟩
theorem Bs.mk_ {w : World} {A : Option Addr} {c : Nat} {l : List UInt8} (h1 : l.length ≤ c) (h2 : c ≤ 9223372036854775807)
    (h3 : 0 < l.length → ∃ b off, A = some ⟨b, off, none⟩ ∧ b < w.heap.size ∧ ∀ i (h : i < l.length), w.cell? ⟨b, off + i, none⟩ = some (.int .u8 (l[i].toNat))) : Bs w (.slice A l.length c) l := by
  refine ⟨A, c, rfl, h1, by unfold maxLen; exact h2, by rw [bytesV_length]; omega, fun hn => ?_⟩
  obtain ⟨b, off, hA, hb, hc⟩ := h3 hn
  refine ⟨b, off, hA, hb, fun j u hu => ?_⟩
  have hj : j < l.length := by have := (List.getElem?_eq_some_iff.1 hu).1; rwa [bytesV_length] at this
  rw [bytesV_get l j hj] at hu
  injection hu with hu
  subst hu
  exact hc j hj
/-- a slice literal just laid -/
theorem Bs.lit (w : World) (C : Array Value) (T : TypeId) {fr : Nat × Nat} (l : List UInt8) (n : Nat) (hn : l.length = n) (hC : C.toList = bytesV l) (hl : n ≤ 9223372036854775807) : Bs (w.alloc (.cells C T fr)) (.slice (some ⟨w.heap.size, 0, none⟩) n n) l := by
  subst hn
  refine Bs.mk_ (Nat.le_refl _) hl (fun _ => ⟨_, 0, rfl, by simp, fun i hi => ?_⟩)
  have h := heap_alloc_new w (.cells C T fr)
  have := cell_of_row (w.alloc (.cells C T fr)) w.heap.size (0 + i) C T fr h
  rw [this, Nat.zero_add, ← Array.getElem?_toList, hC]
  exact bytesV_get l i hi
/-- s[:k] -/
theorem Bs.take {w : World} {A : Option Addr} {n c k : Nat} {l : List UInt8} (h : Bs w (.slice A n c) l) (hk : k ≤ l.length) : Bs w (.slice A k c) (l.take k) := by
  obtain ⟨A', c', hv, h1, h2, h4⟩ := h.open_
  injection hv with hA hn hc
  subst hA hn hc
  have e : (l.take k).length = k := by rw [List.length_take]; omega
  have := Bs.mk_ (w := w) (A := A) (c := c) (l := l.take k) (by omega) h2 (fun hp => by
    obtain ⟨b, off, hA, hb, hcell⟩ := h4 (by omega)
    exact ⟨b, off, hA, hb, fun i hi => by rw [List.getElem_take]; exact hcell i (by omega)⟩)
  rwa [e] at this
/-- s[k:]: the address is kept where nothing is left of the capacity -/
theorem Bs.drop {w : World} {A : Option Addr} {n c k : Nat} {l : List UInt8} (h : Bs w (.slice A n c) l) (hk : k ≤ l.length) {A' : Option Addr} (hA' : ∀ b off, A = some ⟨b, off, none⟩ → k < l.length → A' = some ⟨b, off + k, none⟩) :
    Bs w (.slice A' (n - k) (c - k)) (l.drop k) := by
  obtain ⟨A0, c', hv, h1, h2, h4⟩ := h.open_
  injection hv with hA hn hc
  subst hA hn hc
  have e : (l.drop k).length = l.length - k := List.length_drop
  have := Bs.mk_ (w := w) (A := A') (c := c - k) (l := l.drop k) (by omega) (by omega) (fun hp => by
    obtain ⟨b, off, hA, hb, hcell⟩ := h4 (by omega)
    refine ⟨b, off + k, hA' b off hA (by omega), hb, fun i hi => ?_⟩
    rw [List.getElem_drop, Nat.add_assoc]
    exact hcell (k + i) (by omega))
  rwa [e] at this

/-- an empty slice, whatever its address -/
theorem Bs.empty_ (w : World) (A : Option Addr) (c : Nat) (hc : c ≤ 9223372036854775807) : Bs w (.slice A 0 c) [] := Bs.mk_ (l := []) (Nat.zero_le _) hc (fun h => absurd h (by simp))
/-- s[m:m+q], the capacity not at its end -/
theorem Bs.sub {w : World} {A : Option Addr} {n c m q : Nat} {l : List UInt8} (h : Bs w (.slice A n c) l) (hq : m + q ≤ l.length) : Bs w (.slice (Option.map (fun x => x.add m) A) q (c - m)) ((l.drop m).take q) := by
  have h1 := h.drop (k := m) (by omega) (A' := Option.map (fun x => x.add m) A) (by intro b off e _; subst e; simp [Addr.add_lit])
  exact h1.take (by rw [List.length_drop]; omega)

theorem elem_bytes : Elem Try.prog 47 5 1 1 := Elem.of (z := .int .u8 0) Try.underlying47 (by kernel_rfl) rfl (by omega)
/-- A byte slice of the call's own. -/
def OwnB (w : World) (base : Nat) (e : TypeId) (v : Value) (l : List UInt8) : Prop := w.ownsRow base e 1 v l.length (bytesV l)
theorem OwnB.bs {w : World} {base : Nat} {e : TypeId} {v : Value} {l : List UInt8} (h : OwnB w base e v l) : Bs w v l := Sl.own h
theorem OwnB.below {w w' : World} {base : Nat} {e : TypeId} {v : Value} {l : List UInt8} (h : OwnB w base e v l) (hb : Below w.heap.size w w') : OwnB w' base e v l :=
  World.ownsRow.kept (row := none) h ⟨hb.os, hb.tape, hb.output, hb.size, fun k hk _ => hb.block k hk⟩ (by cases hv : v.ownBlock <;> simp)

theorem strEq (l m : List UInt8) : ((ByteArray.mk l.toArray).toList == (ByteArray.mk m.toArray).toList) = decide (l = m) := by
  rw [ByteArray.toList_mk, ByteArray.toList_mk]
  by_cases h : l = m <;> simp [h]

/-- string(b) of a byte slice -/
theorem run_str {P : Program} {w : World} (src e : TypeId) (hs : P.underlying src = some (.slice e)) (he : P.underlying e = some (.int .u8)) (dst : TypeId) (hd : P.underlying dst = some .string) (v : Value) (l : List UInt8) (h : Bs w v l) :
    (convert src dst v).run P w = .ok (.string ⟨l.toArray⟩) w := by
  obtain ⟨A, c, rfl, h1, h2, h4⟩ := h.open_
  rcases A with _ | ad
  · have hl : l = [] := List.eq_nil_of_length_eq_zero (by
      rcases Nat.eq_zero_or_pos l.length with h0 | h0
      · exact h0
      · obtain ⟨b, off, h, _⟩ := h4 h0
        cases h)
    subst hl
    rw [run_convert_bytes_nil w src e hs he _ c dst hd]
    rfl
  · have hcs : ∀ j u, (bytesV l)[j]? = some u → w.cell? (ad.add j) = some u := by
      intro j u hu
      have hj : j < l.length := by have := (List.getElem?_eq_some_iff.1 hu).1; rwa [bytesV_length] at this
      obtain ⟨b, off, h, _, hc'⟩ := h4 (by omega)
      injection h with h
      subst h
      rw [bytesV_get l j hj] at hu
      injection hu with hu
      subst hu
      rw [Addr.add_lit]
      exact hc' j hj
    have hl : (loadCells ad l.length).run P w = .ok ((l.map fun c => (c.toNat : Int)).map (Value.int .u8)).toArray w := by
      have := run_loadCells_list (P := P) w ad (bytesV l) hcs
      rw [bytesV_length] at this
      rw [this]
      simp [bytesV, Function.comp_def]
    rw [run_convert_bytes_string w src dst e _ l.length c hs he hd, run_bytesToString w _ l.length c _ hl, foldl_push_byteCells, show ByteArray.empty.data = #[] from rfl, Array.empty_append]
end Go.Proofs.Ytmgcbiejnifhpaa
