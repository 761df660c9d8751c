/- The contracts of Great, within, floor. -/
import Derived.Test.YtpneohekghpkbaaH
namespace Go.Proofs.Ytpneohekghpkbaa
open Go.RowKit Go.Shelf
attribute [local go_sem ↓] load_rule

def greatB (b : Br) : Bool := decide (40 < (b.il : Int)) || (decide (40 < (b.kl : Int)) || decide (40 < (b.ml : Int)))

set_option maxRecDepth 100000 in
set_option maxHeartbeats 1000000 in
theorem great_any (b : Br) (w : World) : Calls Try.prog 6 #[.agg #[.int .i64 b.epoch, .int .i64 b.seq, .bool b.set, .int .i64 b.desired, .int .i64 b.minh, .int .i64 b.surplus, .int .i64 b.pool, .int .i64 b.hookIn, .int .i64 b.hookOut, .int .i64 b.warmup, .int .i64 b.drain, .int .i64 b.reap, .int .i64 b.timeout, .int .i64 b.fails, .int .i64 b.delay, .int .i64 b.version, .bool b.skip, .slice b.ma b.ml b.mc, .slice b.ia b.il b.ic, .slice b.ka b.kl b.kc, .int .u8 b.state, .int .i64 b.ffrom, .int .i64 b.target, .int .i64 b.step, .bool b.paused, .int .i64 b.since, .int .i64 b.rfails]] w fun e w' => e = .returned (.bool (greatB b)) ∧ Below w.heap.size w w' := by
  have hbel : Below w.heap.size w (w.alloc (.cells #[.int .i64 b.epoch, .int .i64 b.seq, .bool b.set, .int .i64 b.desired, .int .i64 b.minh, .int .i64 b.surplus, .int .i64 b.pool, .int .i64 b.hookIn, .int .i64 b.hookOut, .int .i64 b.warmup, .int .i64 b.drain, .int .i64 b.reap, .int .i64 b.timeout, .int .i64 b.fails, .int .i64 b.delay, .int .i64 b.version, .bool b.skip, .slice b.ma b.ml b.mc, .slice b.ia b.il b.ic, .slice b.ka b.kl b.kc, .int .u8 b.state, .int .i64 b.ffrom, .int .i64 b.target, .int .i64 b.step, .bool b.paused, .int .i64 b.since, .int .i64 b.rfails] 30)) := (Below.refl _ _).alloc (Nat.le_refl _) _
  have hr := Lib.hid (show greatB b = (decide (40 < (b.il : Int)) || (decide (40 < (b.kl : Int)) || decide (40 < (b.ml : Int)))) from rfl)
  cases h1 : decide (40 < (b.il : Int)) with
  | true =>
    rw [h1] at hr
    go_enter Try.func6, Try.ntmps6
    go_wp2
    go_ret
    rw [hr.out]
    exact ⟨rfl, hbel⟩
  | false =>
    cases h2 : decide (40 < (b.kl : Int)) with
    | true =>
      rw [h1, h2] at hr
      go_enter Try.func6, Try.ntmps6
      go_wp2
      go_ret
      rw [hr.out]
      exact ⟨rfl, hbel⟩
    | false =>
      rw [h1, h2] at hr
      go_enter Try.func6, Try.ntmps6
      go_wp2
      go_ret
      rw [hr.out]
      exact ⟨rfl, hbel⟩

theorem within_any (v lo hi : Int) (w : World) : Calls Try.prog 30 #[.int .i64 v, .int .i64 lo, .int .i64 hi] w fun e w' => e = .returned (.bool (decide (lo ≤ v) && decide (v ≤ hi))) ∧ w' = w := by
  cases h1 : decide (lo ≤ v) with
  | true =>
    go_enter Try.func30, Try.ntmps30
    go_wp2
    go_ret
    exact ⟨by simp, rfl⟩
  | false =>
    go_enter Try.func30, Try.ntmps30
    go_wp2
    go_ret
    exact ⟨rfl, rfl⟩

/-- A configuration's fifteen values. -/
def cfg (b : Br) : Array Value := #[.int .i64 b.desired, .int .i64 b.minh, .int .i64 b.surplus, .int .i64 b.pool, .int .i64 b.hookIn, .int .i64 b.hookOut, .int .i64 b.warmup, .int .i64 b.drain, .int .i64 b.reap, .int .i64 b.timeout, .int .i64 b.fails, .int .i64 b.delay, .int .i64 b.version, .bool b.skip, .slice b.ma b.ml b.mc]

set_option maxRecDepth 100000 in
set_option maxHeartbeats 1000000 in
theorem floor_any (b : Br) (w : World) : Calls Try.prog 31 #[.agg (cfg b)] w fun e w' => (∃ n, e = .returned (.int .i64 n)) ∧ Below w.heap.size w w' := by
  have hbel : Below w.heap.size w (w.alloc (.cells (cfg b) 24)) := (Below.refl _ _).alloc (Nat.le_refl _) _
  unfold cfg at hbel ⊢
  go_enter Try.func31, Try.ntmps31
  go_wp2
  go_ret
  exact ⟨⟨_, rfl⟩, hbel⟩
end Go.Proofs.Ytpneohekghpkbaa
