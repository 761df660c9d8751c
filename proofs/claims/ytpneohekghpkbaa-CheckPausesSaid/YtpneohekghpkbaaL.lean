/- Laws: a whole brain loaded from its block, also behind a guard, also inside a fence; a whole brain stored. -/
import Derived.Laws.EntriesVeiled
import Derived.Test.YtpneohekghpkbaaB
namespace Go.Proofs.Ytpneohekghpkbaa
open Go.RowKit Go.Shelf

theorem size30 : (Try.prog.info? 30).map (·.size) = some 27 := by kernel_rfl
theorem run_load30 {w : World} {B : Nat} {b : Br} (h : BAt w B b) : (loadVar 30 ⟨B, 0, none⟩).run Try.prog w = .ok (.agg #[.int .i64 b.epoch, .int .i64 b.seq, .bool b.set, .int .i64 b.desired, .int .i64 b.minh, .int .i64 b.surplus, .int .i64 b.pool, .int .i64 b.hookIn, .int .i64 b.hookOut, .int .i64 b.warmup, .int .i64 b.drain, .int .i64 b.reap, .int .i64 b.timeout, .int .i64 b.fails, .int .i64 b.delay, .int .i64 b.version, .bool b.skip, .slice b.ma b.ml b.mc, .slice b.ia b.il b.ic, .slice b.ka b.kl b.kc, .int .u8 b.state, .int .i64 b.ffrom, .int .i64 b.target, .int .i64 b.step, .bool b.paused, .int .i64 b.since, .int .i64 b.rfails]) w := by
  exact run_loadVar_row w B 30 30 _ (0, 0) _ h Try.underlying30 rfl size30

section
variable {ops : Array Oper} {rest : List Oper} {o : Oper} {a : Act} {w : World} {Q : Exit → Act → World → Prop}
theorem load30 (x : Operand) (ho : o.op = .load 30 x) (hgd : o.guard = none) {B : Nat} {b : Br} (h : BAt w B b) (hx : a.eval x = .pointer (some ⟨B, 0, none⟩))
    (hk : wpList Try.prog ops Q rest (a.put o.dst (.agg #[.int .i64 b.epoch, .int .i64 b.seq, .bool b.set, .int .i64 b.desired, .int .i64 b.minh, .int .i64 b.surplus, .int .i64 b.pool, .int .i64 b.hookIn, .int .i64 b.hookOut, .int .i64 b.warmup, .int .i64 b.drain, .int .i64 b.reap, .int .i64 b.timeout, .int .i64 b.fails, .int .i64 b.delay, .int .i64 b.version, .bool b.skip, .slice b.ma b.ml b.mc, .slice b.ia b.il b.ic, .slice b.ka b.kl b.kc, .int .u8 b.state, .int .i64 b.ffrom, .int .i64 b.target, .int .i64 b.step, .bool b.paused, .int .i64 b.since, .int .i64 b.rfails])) w) : wpList Try.prog ops Q (o :: rest) a w := by
  exact wpList_load_row hgd 30 x ho B hx 30 _ (0, 0) _ h Try.underlying30 rfl size30 hk

/-- .. behind a guard that lets it by. -/
theorem load30_g (x : Operand) (ho : o.op = .load 30 x) (hw : Region.wanted o (yielded ops a.tmps) = true) {B : Nat} {b : Br} (h : BAt w B b) (hx : a.eval x = .pointer (some ⟨B, 0, none⟩))
    (hk : wpList Try.prog ops Q rest (a.put o.dst (.agg #[.int .i64 b.epoch, .int .i64 b.seq, .bool b.set, .int .i64 b.desired, .int .i64 b.minh, .int .i64 b.surplus, .int .i64 b.pool, .int .i64 b.hookIn, .int .i64 b.hookOut, .int .i64 b.warmup, .int .i64 b.drain, .int .i64 b.reap, .int .i64 b.timeout, .int .i64 b.fails, .int .i64 b.delay, .int .i64 b.version, .bool b.skip, .slice b.ma b.ml b.mc, .slice b.ia b.il b.ic, .slice b.ka b.kl b.kc, .int .u8 b.state, .int .i64 b.ffrom, .int .i64 b.target, .int .i64 b.step, .bool b.paused, .int .i64 b.since, .int .i64 b.rfails])) w) : wpList Try.prog ops Q (o :: rest) a w := by
  refine wpList_step fun K hK => ?_
  rw [if_pos hw]
  exact wp_load_row 30 x ho B hx 30 _ (0, 0) _ h Try.underlying30 rfl size30 (hK _ _ hk)

theorem load30_in {F : Fence} {n : Nat} (x : Operand) (ho : o.op = .load 30 x) (hgd : o.guard = none) {B : Nat} {b : Br} (h : BAt w B b) (hx : a.eval x = .pointer (some ⟨B, 0, none⟩))
    (hk : wpListIn F n Try.prog ops Q rest (a.put o.dst (.agg #[.int .i64 b.epoch, .int .i64 b.seq, .bool b.set, .int .i64 b.desired, .int .i64 b.minh, .int .i64 b.surplus, .int .i64 b.pool, .int .i64 b.hookIn, .int .i64 b.hookOut, .int .i64 b.warmup, .int .i64 b.drain, .int .i64 b.reap, .int .i64 b.timeout, .int .i64 b.fails, .int .i64 b.delay, .int .i64 b.version, .bool b.skip, .slice b.ma b.ml b.mc, .slice b.ia b.il b.ic, .slice b.ka b.kl b.kc, .int .u8 b.state, .int .i64 b.ffrom, .int .i64 b.target, .int .i64 b.step, .bool b.paused, .int .i64 b.since, .int .i64 b.rfails])) w) : wpListIn F n Try.prog ops Q (o :: rest) a w := by
  refine wpListIn_plain hgd fun K hK' => ?_
  unfold Oper.wpIn
  refine ⟨?_, ?_⟩
  · simp [Oper.about, ho]
  · rw [Oper.semAt_plain F _ _ (by rw [ho]; intro c hc'; cases hc')]
    simp [execOp, ho, hx, Instr.loadAt, Instr.sureAddr, run_load30 h, Result.andThen]
    exact hK' _ _ hk
end
end Go.Proofs.Ytpneohekghpkbaa
