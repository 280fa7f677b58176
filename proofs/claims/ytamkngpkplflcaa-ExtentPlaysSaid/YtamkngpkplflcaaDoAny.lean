/- law 05: Do, whatever the act. -/
import Derived.Test.YtamkngpkplflcaaDoWalk5
namespace Go.Proofs.Ytamkngpkplflcaa
open Go.RowKit

theorem do_any (base g : Nat) (X : Nat → Prop) (d : Dk) (u : Value) (r : Rk) (k : Nat) (hk : k ≤ 1000) (a : DAct) (w : World) (p : Pair base X 0 0 w g d u r) (gr : GoodR r k) (gd : GoodD d k) (hbase : base ≤ w.heap.size) (hkv : BoolsB w base a.kv a.kl) (hat : I64 a.at_) (hll : a.kl.length ≤ 140737488355328) :
    Calls Try.prog 53 #[.pointer (some ⟨g, 0, none⟩), u, .agg #[.int .i64 a.do_, .int .i64 a.at_, .int .i64 a.off, .int .u8 (a.fill.toNat : Int), a.kv]] w fun e w' => ∃ u' bl, e = .returned (.tuple #[u', .bool bl]) ∧ (∃ d' r', Pair base X 0 0 w' g d' u' r' ∧ GoodR r' (k + 1) ∧ GoodD d' (k + 1)) ∧ Bel base X w w' := by
  obtain ⟨do_, at_, off, fill, kv, kl⟩ := a
  dsimp only at *
  by_cases h0 : do_ = 0
  · subst h0; exact do_write0 base g X d u r k hk at_ off fill kv w p gr gd hbase
  by_cases h1 : do_ = 1
  · subst h1; exact do_write1 base g X d u r k hk at_ off fill kv w p gr gd hbase
  by_cases h2 : do_ = 2
  · subst h2; exact do_write2 base g X d u r k hk at_ off fill kv w p gr gd hbase
  by_cases h3 : do_ = 3
  · subst h3; exact do_write3 base g X d u r k hk at_ off fill kv w p gr gd hbase
  by_cases h4 : do_ = 4
  · subst h4; exact do_flush base g X d u r k at_ off fill kv w p gr gd hbase
  by_cases h5 : do_ = 5
  · subst h5; exact do_read base g X d u r k at_ off fill kv w p gr gd hbase
  by_cases h6 : do_ = 6
  · subst h6; exact do_crash base g X d u r k at_ off fill kv kl w p gr gd hbase hkv
  by_cases h7 : do_ = 7
  · subst h7; exact do_power base g X d u r k at_ off fill kv w p gr gd hbase
  by_cases h8 : do_ = 8
  · subst h8; exact do_arm base g X d u r k at_ off fill kv kl w p gr gd hbase hkv hat hll
  by_cases h9 : do_ = 9
  · subst h9
    have := Int.lt_tmod_of_pos off (show (0 : Int) < 2 by omega)
    exact do_load base g X d u r k at_ off (256 + off.tmod 2).toNat (by omega) fill kv w p gr gd hbase
  by_cases hin : 0 ≤ at_ ∧ at_ < 4
  · obtain ⟨s, rfl⟩ : ∃ s : Nat, at_ = (s : Int) := ⟨at_.toNat, by omega⟩
    exact do_has base g X d u r k do_ (by omega) s (by omega) off fill kv w p gr gd hbase
  · exact do_hasNot base g X d u r k do_ (by omega) at_ (by omega) off fill kv w p gr gd hbase
end Go.Proofs.Ytamkngpkplflcaa
