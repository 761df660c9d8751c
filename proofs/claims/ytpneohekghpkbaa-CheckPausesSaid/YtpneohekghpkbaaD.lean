/- A rule for the walk: a whole brain is loaded from its block at once. -/
import Derived.ScopeJumps
import Derived.Test.YtpneohekghpkbaaC
namespace Go.Proofs.Ytpneohekghpkbaa
open Go.RowKit Go.Shelf

theorem serving_any (b : Br) (ver : Int) (kl : List Kp) (hsmall : kl.length ≤ 100) (w : World) (hk : KRow w w.heap.size (.slice b.ka b.kl b.kc) kl) :
    Calls Try.prog 10 #[.agg #[.int .i64 b.epoch, .int .i64 b.seq, .bool b.set, .int .i64 b.desired, .int .i64 b.minh, .int .i64 b.surplus, .int .i64 b.pool, .int .i64 b.hookIn, .int .i64 b.hookOut, .int .i64 b.warmup, .int .i64 b.drain, .int .i64 b.reap, .int .i64 b.timeout, .int .i64 b.fails, .int .i64 b.delay, .int .i64 b.version, .bool b.skip, .slice b.ma b.ml b.mc, .slice b.ia b.il b.ic, .slice b.ka b.kl b.kc, .int .u8 b.state, .int .i64 b.ffrom, .int .i64 b.target, .int .i64 b.step, .bool b.paused, .int .i64 b.since, .int .i64 b.rfails], .int .i64 ver] w fun e W' => e = .returned (.int .i64 (countV (servs kl) ver)) ∧ Below w.heap.size w W' :=
  callsIn_wide.1 (serving_in Fence.wide 4 trivial trivial trivial trivial rfl (by omega) b ver kl hsmall w hk)

/-- The value leads to a block that holds a brain. -/
def Loads (w : World) (v : Value) : Prop := ∃ B cs, v = .pointer (some ⟨B, 0, none⟩) ∧ w.heap[B]? = some (.cells cs 30 (0, 0)) ∧ cs.size = 27
/-- The cells that it leads to. -/
def rowOf (w : World) : Value → Array Value
  | .pointer (some a) => match w.heap[a.block]? with
    | some (.cells cs _ _) => cs
    | _ => #[]
  | _ => #[]

theorem load_rule (d : Option Tmp) (k t : Nat) (p : String) (af : Array Edge) (g : Option (Nat × Bool)) (ρ : Operand → Value) (w : World) (h : Loads w (ρ (.tmp k))) :
    Sem.run Try.prog (execOp ρ { dst := d, op := .load 30 (.tmp k), type := t, pos := p, after := af, guard := g }) w = .ok (.value (.agg (rowOf w (ρ (.tmp k))))) w := by
  obtain ⟨B, cs, hv, hh, hs⟩ := h
  have hl : (loadVar 30 ⟨B, 0, none⟩).run Try.prog w = .ok (.agg cs) w := run_loadVar_row w B 30 30 cs (0, 0) _ hh Try.underlying30 rfl (by rw [hs]; exact size30)
  unfold execOp
  simp only [hv, Instr.loadAt, Instr.sureAddr, Sem.run_bind, Sem.run_pure, Result.andThen_ok, hl, rowOf, hh]
attribute [local go_sem ↓] load_rule

theorem BAt.loads {w : World} {B : Nat} {b : Br} (h : BAt w B b) : Loads w (.pointer (some ⟨B, 0, none⟩)) := ⟨B, _, rfl, h, rfl⟩
theorem BAt.row {w : World} {B : Nat} {b : Br} (h : BAt w B b) : rowOf w (.pointer (some ⟨B, 0, none⟩)) = #[.int .i64 b.epoch, .int .i64 b.seq, .bool b.set, .int .i64 b.desired, .int .i64 b.minh, .int .i64 b.surplus, .int .i64 b.pool, .int .i64 b.hookIn, .int .i64 b.hookOut, .int .i64 b.warmup, .int .i64 b.drain, .int .i64 b.reap, .int .i64 b.timeout, .int .i64 b.fails, .int .i64 b.delay, .int .i64 b.version, .bool b.skip, .slice b.ma b.ml b.mc, .slice b.ia b.il b.ic, .slice b.ka b.kl b.kc, .int .u8 b.state, .int .i64 b.ffrom, .int .i64 b.target, .int .i64 b.step, .bool b.paused, .int .i64 b.since, .int .i64 b.rfails] := by
  unfold BAt at h
  simp only [rowOf, h]

/-- What is told of a block that holds a brain, for the walk. -/
theorem BAt.facts {w : World} {B : Nat} {b : Br} (h : BAt w B b) : Loads w (.pointer (some ⟨B, 0, none⟩)) ∧ rowOf w (.pointer (some ⟨B, 0, none⟩)) = #[.int .i64 b.epoch, .int .i64 b.seq, .bool b.set, .int .i64 b.desired, .int .i64 b.minh, .int .i64 b.surplus, .int .i64 b.pool, .int .i64 b.hookIn, .int .i64 b.hookOut, .int .i64 b.warmup, .int .i64 b.drain, .int .i64 b.reap, .int .i64 b.timeout, .int .i64 b.fails, .int .i64 b.delay, .int .i64 b.version, .bool b.skip, .slice b.ma b.ml b.mc, .slice b.ia b.il b.ic, .slice b.ka b.kl b.kc, .int .u8 b.state, .int .i64 b.ffrom, .int .i64 b.target, .int .i64 b.step, .bool b.paused, .int .i64 b.since, .int .i64 b.rfails] := ⟨h.loads, h.row⟩

/-- The next mark, told of a brain whose marks are these. -/
def markB (b : Br) (ms : List Int) : Int × Bool := if b.step < 0 ∨ (ms.length : Int) ≤ b.step then (0, false) else (ms.getD b.step.toNat 0, true)

/-- A slice value that holds these numbers, below block B. -/
def IRow (w : World) (B : Nat) (a : Option Addr) (n : Nat) (l : List Int) : Prop :=
  n = l.length ∧ (l = [] ∨ ∃ b off, a = some ⟨b, off, none⟩ ∧ b < B ∧ ∀ i, i < l.length → w.cell? ⟨b, off + i, none⟩ = some (.int .i64 (l.getD i 0)))
theorem IRow.below {w w' : World} {N B : Nat} {a : Option Addr} {n : Nat} {l : List Int} (h : IRow w B a n l) (hb : Below N w w') (hB : B ≤ N) : IRow w' B a n l := by
  obtain ⟨hn, h | ⟨b, off, ha, hlt, hc⟩⟩ := h
  · exact ⟨hn, .inl h⟩
  · exact ⟨hn, .inr ⟨b, off, ha, hlt, fun i hi => (hb.cell (p := ⟨b, off + i, none⟩) (show b < N by omega)).trans (hc i hi)⟩⟩
theorem IRow.mono {w : World} {B B' : Nat} {a : Option Addr} {n : Nat} {l : List Int} (h : IRow w B a n l) (hB : B ≤ B') : IRow w B' a n l := by
  obtain ⟨hn, h | ⟨b, off, ha, hlt, hc⟩⟩ := h
  · exact ⟨hn, .inl h⟩
  · exact ⟨hn, .inr ⟨b, off, ha, by omega, hc⟩⟩

/-- A scope in which the run jumps forward, once at most: at the jump the walk goes on behind the label. -/
theorem wp_scope_fwd {P : Program} {Q : Exit → Act → World → Prop} {a : Act} {w : World} {c rest : Code} (l : Nat) (hf : findLabel c l = some rest)
    (first : c.wp P (Exit.jump l (fun a' w' => rest.wp P (Exit.noGoto Q) a' w') Q) a w) : (Code.scope c).wp P Q a w := by
  refine wp_scope_jumps l (fun a' w' => rest.wp P (Exit.noGoto Q) a' w') (fun _ _ => 0) hf first ?_
  intro a' w' h
  refine wp_mono h ?_
  intro e a w h
  cases e <;> first | exact h | exact h.elim

def MarkPost (w : World) (m : Int) (ok : Bool) (e : Ending) (w' : World) : Prop := e = .returned (.tuple #[.int .i64 m, .bool ok]) ∧ Below w.heap.size w w'

set_option maxRecDepth 100000 in
set_option maxHeartbeats 1000000 in
theorem mark_any (b : Br) (ms : List Int) (w : World) (hm : IRow w w.heap.size b.ma b.ml ms) :
    Calls Try.prog 16 #[.agg #[.int .i64 b.epoch, .int .i64 b.seq, .bool b.set, .int .i64 b.desired, .int .i64 b.minh, .int .i64 b.surplus, .int .i64 b.pool, .int .i64 b.hookIn, .int .i64 b.hookOut, .int .i64 b.warmup, .int .i64 b.drain, .int .i64 b.reap, .int .i64 b.timeout, .int .i64 b.fails, .int .i64 b.delay, .int .i64 b.version, .bool b.skip, .slice b.ma b.ml b.mc, .slice b.ia b.il b.ic, .slice b.ka b.kl b.kc, .int .u8 b.state, .int .i64 b.ffrom, .int .i64 b.target, .int .i64 b.step, .bool b.paused, .int .i64 b.since, .int .i64 b.rfails]] w (MarkPost w (markB b ms).1 (markB b ms).2) := by
  have hbel : ∀ o, Below w.heap.size w (w.alloc o) := fun o => (Below.refl _ _).alloc (Nat.le_refl _) o
  obtain ⟨hn, hc⟩ := hm
  by_cases h1 : b.step < 0
  · have hr := Lib.hid (show markB b ms = (0, false) by simp [markB, h1])
    have d1 : decide (b.step < 0) = true := by simpa using h1
    clear hc hn h1
    go_enter Try.func16, Try.ntmps16
    go_wp2
    refine wp_scope_fwd 0 rfl ?_
    go_wp2
    go_step3
    refine ⟨rfl, ?_⟩
    go_wp2
    rw [Exit.noGoto_ret]
    go_ret2
    rw [hr.out]
    exact ⟨rfl, hbel _⟩
  by_cases h2 : (ms.length : Int) ≤ b.step
  · have hr := Lib.hid (show markB b ms = (0, false) by simp [markB, h2])
    have d1 : decide (b.step < 0) = false := by simpa using h1
    have d2 : decide ((b.ml : Int) ≤ b.step) = true := by rw [hn]; simpa using h2
    clear hc hn h1 h2
    go_enter Try.func16, Try.ntmps16
    go_wp2
    refine wp_scope_fwd 0 rfl ?_
    go_wp2
    go_step3
    refine ⟨rfl, ?_⟩
    go_wp2
    rw [Exit.noGoto_ret]
    go_ret2
    rw [hr.out]
    exact ⟨rfl, hbel _⟩
  · have hr := Lib.hid (show markB b ms = (ms.getD b.step.toNat 0, true) by unfold markB; rw [if_neg (by omega)])
    have d1 : decide (b.step < 0) = false := by simpa using h1
    have d2 : decide ((b.ml : Int) ≤ b.step) = false := by rw [hn]; simpa using h2
    rcases hc with hc | ⟨bb, off, ha, hlt, hc⟩
    · subst hc; simp at h2; omega
    · have hcell := fun o => cell_alloc_l o (hc b.step.toNat (by omega))
      have hb1 : b.step < (b.ml : Int) := by omega
      have hb2 : 0 ≤ b.step := by omega
      generalize ms.getD b.step.toNat 0 = x at hcell hr
      clear hc hn h1 h2 hlt
      go_enter Try.func16, Try.ntmps16
      go_wp2
      go_step3
      go_wp2
      go_step3
      go_wp2
      rw [Exit.noGoto_ret]
      go_ret2
      rw [hr.out]
      exact ⟨rfl, hbel _⟩
end Go.Proofs.Ytpneohekghpkbaa
