/- ports: the acts of a law as they lie in memory; Receive whatever waits. -/
import Derived.Test.YtkcjjogekkldkaaPortsAwake
import Derived.Test.YtkcjjogekkldkaaOpenBytes
namespace Go.Proofs.Ytkcjjogekkldkaa
open Go.RowKit Go.WideShapes Go.ChangeShapes Go.ChangeAt Go.Deep

structure Act1 where
  rcv : Bool
  v : Value
  l : List UInt8
  now : Nat
structure Acts (w : World) (b off n : Nat) (G : Nat → Act1) : Prop where
  lt : b < w.heap.size
  c0 : ∀ i, i < n → w.cell? ⟨b, off + i*3, none⟩ = some (.bool (G i).rcv)
  c1 : ∀ i, i < n → w.cell? ⟨b, off + i*3 + 1, none⟩ = some (G i).v
  c2 : ∀ i, i < n → w.cell? ⟨b, off + i*3 + 2, none⟩ = some (.int .u64 (G i).now)
  bs : ∀ i, i < n → Bs w (G i).v (G i).l
  now : ∀ i, i < n → (G i).now < 18446744073709551616
/-- acts as an argument -/
def ActsAt (w : World) (A : Option Addr) (n : Nat) (G : Nat → Act1) : Prop := 0 < n → ∃ b off, A = some ⟨b, off, none⟩ ∧ Acts w b off n G

theorem open_acts {H : Type} {enc : TypeId × Value → H} {P : Program} {w : World} {base : Nat} {spare : Nat → Bool} {held : Bool} {t e tb : TypeId} {f0 f1 f2 : Field} {v : Value} {fuel : Nat} {x : DataW H × List MemPlace} (ht : P.underlying t = some (.slice e)) (he : P.underlying e = some (.struct #[f0, f1, f2]))
    (hone : oneCellFields P #[f0, f1, f2] = true) (hC : P.cellsOf e = 3) (h0 : P.underlying f0.type = some .bool) (h1 : P.underlying f1.type = some (.slice tb)) (hb : P.underlying tb = some (.int .u8)) (hcb : P.cellsOf tb = 1) (h2 : P.underlying f2.type = some (.int .u64))
    (h : DataW.trod enc P w base spare held fuel t [v] = some x) :
    ∃ (A : Option Addr) (n c : Nat) (G : Nat → Act1), v = .slice A n c ∧ n ≤ c ∧ c ≤ 9223372036854775807 ∧ ActsAt w A n G := by
  obtain ⟨A, n, c, rfl, hn, hc, hx⟩ := trod_rows ht he hone hC (by simp) h
  have key : ∃ G : Nat → Act1, ActsAt w A n G := by
    by_cases hpos : 0 < n
    · obtain ⟨b, off, rfl, hlt, hcells⟩ := hx hpos
      have k : ∀ i, ∃ g : Act1, i < n → w.cell? ⟨b, off + i*3, none⟩ = some (.bool g.rcv) ∧ w.cell? ⟨b, off + i*3 + 1, none⟩ = some g.v ∧ w.cell? ⟨b, off + i*3 + 2, none⟩ = some (.int .u64 g.now) ∧ Bs w g.v g.l ∧ g.now < 18446744073709551616 := by
        intro i
        by_cases hi : i < n
        · obtain ⟨u0, _, _, hu0, hy0⟩ := hcells i hi 0 f0 rfl
          obtain ⟨r, rfl⟩ := trod_boolV h0 hy0
          obtain ⟨u1, _, _, hu1, hy1⟩ := hcells i hi 1 f1 rfl
          obtain ⟨l, hl, _⟩ := trod_bytes h1 hb hcb hy1
          obtain ⟨u2, _, _, hu2, hy2⟩ := hcells i hi 2 f2 rfl
          obtain ⟨m, rfl, hm⟩ := trod_u64 h2 hy2
          exact ⟨⟨r, u1, l, m⟩, fun _ => ⟨hu0, hu1, hu2, hl, hm⟩⟩
        · exact ⟨⟨false, undef, [], 0⟩, fun h => absurd h hi⟩
      refine ⟨fun i => Classical.choose (k i), fun _ => ⟨b, off, rfl, hlt, ?_, ?_, ?_, ?_, ?_⟩⟩
      all_goals intro i hi; have := Classical.choose_spec (k i) hi
      · exact this.1
      · exact this.2.1
      · exact this.2.2.1
      · exact this.2.2.2.1
      · exact this.2.2.2.2
    · exact ⟨fun _ => ⟨false, undef, [], 0⟩, fun h => absurd h hpos⟩
  obtain ⟨G, hG⟩ := key
  exact ⟨A, n, c, G, rfl, hn, by unfold maxLen at hc; exact hc, hG⟩

theorem Acts.below {w w' : World} {b off n : Nat} {G : Nat → Act1} (h : Acts w b off n G) (hb : Below w.heap.size w w') : Acts w' b off n G := by
  have e := fun o => hb.cell (p := ⟨b, o, none⟩) h.lt
  exact ⟨Nat.lt_of_lt_of_le h.lt hb.size, fun i hi => (e _).trans (h.c0 i hi), fun i hi => (e _).trans (h.c1 i hi), fun i hi => (e _).trans (h.c2 i hi), fun i hi => (h.bs i hi).below hb, h.now⟩

/-- Receive: the channel, the message, its age, the error -/
def recvC (c : Chan) (now : Nat) : Chan × List UInt8 × Nat × Int := match c.L with
  | [] => (c, [], 0, 6)
  | m :: r => (popC c r, m.b, ageV now m.at_, 0)
theorem recv_any (g : Nat) (c : Chan) (now : Nat) (hnow : now < 18446744073709551616) (w : World) (h : ChanAt w g c) :
    Calls Try.prog 14 #[.pointer (some ⟨g, 0, none⟩), .int .u64 now] w fun e w' => ∃ v, e = .returned (.tuple #[v, .int .u64 (recvC c now).2.2.1, .int .i64 (recvC c now).2.2.2]) ∧ OwnB w' w.heap.size 5 v (recvC c now).2.1 ∧ ChanAt w' g (recvC c now).1 ∧ Touch (fun k => k = g) w w' := by
  unfold recvC
  split
  · rename_i hL
    refine (recv_none g c now w h hL).mono ?_
    rintro e w' ⟨rfl, rfl⟩
    exact ⟨_, rfl, World.ownsRow_nil _ _ _ _, h, Touch.refl _ _⟩
  · rename_i m r hL
    exact recv_some g c m r now hnow w h hL
theorem recvC_same (c : Chan) (now : Nat) : (recvC c now).1.kind = c.kind ∧ (recvC c now).1.size = c.size ∧ (recvC c now).1.most = c.most := by
  unfold recvC popC
  repeat' split
  all_goals exact ⟨rfl, rfl, rfl⟩
theorem sendC_same (c : Chan) (l : List UInt8) (now : Nat) : (sendC c l now).1.kind = c.kind ∧ (sendC c l now).1.size = c.size ∧ (sendC c l now).1.most = c.most := by
  unfold sendC
  repeat' split
  all_goals exact ⟨rfl, rfl, rfl⟩
end Go.Proofs.Ytkcjjogekkldkaa
