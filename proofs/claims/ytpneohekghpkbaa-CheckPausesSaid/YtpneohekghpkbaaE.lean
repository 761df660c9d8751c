/- The contract of Progress. -/
import Derived.RegionTactic
import Derived.BigRegion
import Derived.Deep.RegionWith
import Derived.Deep.DeepCutAuto
import Derived.Deep.RegionHeld3
import Derived.IntWalk
import Derived.Test.YtpneohekghpkbaaD
namespace Go.Proofs.Ytpneohekghpkbaa
open Go.RowKit Go.Shelf
attribute [local go_sem ↓] load_rule
theorem loads_drew (w : World) (v : Value) : Loads w.drew v = Loads w v := rfl
theorem rowOf_drew (w : World) (v : Value) : rowOf w.drew v = rowOf w v := rfl
attribute [local go_sem] loads_drew rowOf_drew

theorem serving_keep (b : Br) (ver : Int) (kl : List Kp) (hsmall : kl.length ≤ 100) (w : World) (hk : KRow w w.heap.size (.slice b.ka b.kl b.kc) kl) (B : Nat) (hB : B < w.heap.size) (hv : BAt w B b) :
    Calls Try.prog 10 #[.agg #[.int .i64 b.epoch, .int .i64 b.seq, .bool b.set, .int .i64 b.desired, .int .i64 b.minh, .int .i64 b.surplus, .int .i64 b.pool, .int .i64 b.hookIn, .int .i64 b.hookOut, .int .i64 b.warmup, .int .i64 b.drain, .int .i64 b.reap, .int .i64 b.timeout, .int .i64 b.fails, .int .i64 b.delay, .int .i64 b.version, .bool b.skip, .slice b.ma b.ml b.mc, .slice b.ia b.il b.ic, .slice b.ka b.kl b.kc, .int .u8 b.state, .int .i64 b.ffrom, .int .i64 b.target, .int .i64 b.step, .bool b.paused, .int .i64 b.since, .int .i64 b.rfails], .int .i64 ver] w fun e W' => e = .returned (.int .i64 (countV (servs kl) ver)) ∧ Loads W' (.pointer (some ⟨B, 0, none⟩)) ∧ rowOf W' (.pointer (some ⟨B, 0, none⟩)) = #[.int .i64 b.epoch, .int .i64 b.seq, .bool b.set, .int .i64 b.desired, .int .i64 b.minh, .int .i64 b.surplus, .int .i64 b.pool, .int .i64 b.hookIn, .int .i64 b.hookOut, .int .i64 b.warmup, .int .i64 b.drain, .int .i64 b.reap, .int .i64 b.timeout, .int .i64 b.fails, .int .i64 b.delay, .int .i64 b.version, .bool b.skip, .slice b.ma b.ml b.mc, .slice b.ia b.il b.ic, .slice b.ka b.kl b.kc, .int .u8 b.state, .int .i64 b.ffrom, .int .i64 b.target, .int .i64 b.step, .bool b.paused, .int .i64 b.since, .int .i64 b.rfails] ∧ W'.cell? ⟨B, 3, none⟩ = some (.int .i64 b.desired) ∧ Below w.heap.size w W' :=
  (serving_any b ver kl hsmall w hk).mono fun _ _ ⟨he, hb⟩ => ⟨he, (hv.below hb hB).loads, (hv.below hb hB).row, (hv.below hb hB).f3, hb⟩

theorem ret_int {k : IntKind} {a b : Int} (h : a = b) : Ending.returned (.int k a) = .returned (.int k b) := by rw [h]

/-- How many serve, of the version that is wanted. -/
def servB (b : Br) (kl : List Kp) : Int := countV (servs kl) (versionOf b)
theorem servB_le (b : Br) (kl : List Kp) : 0 ≤ servB b kl ∧ servB b kl ≤ kl.length := by
  have h1 := countV_le (servs kl) (versionOf b)
  have h2 := servs_len kl
  unfold servB
  omega

set_option maxRecDepth 100000 in
set_option maxHeartbeats 4000000 in
theorem progress_low (b : Br) (hd : b.desired < 1) (w : World) : Calls Try.prog 9 #[.agg #[.int .i64 b.epoch, .int .i64 b.seq, .bool b.set, .int .i64 b.desired, .int .i64 b.minh, .int .i64 b.surplus, .int .i64 b.pool, .int .i64 b.hookIn, .int .i64 b.hookOut, .int .i64 b.warmup, .int .i64 b.drain, .int .i64 b.reap, .int .i64 b.timeout, .int .i64 b.fails, .int .i64 b.delay, .int .i64 b.version, .bool b.skip, .slice b.ma b.ml b.mc, .slice b.ia b.il b.ic, .slice b.ka b.kl b.kc, .int .u8 b.state, .int .i64 b.ffrom, .int .i64 b.target, .int .i64 b.step, .bool b.paused, .int .i64 b.since, .int .i64 b.rfails]] w fun e w' => e = .returned (.int .i64 100) ∧ Below w.heap.size w w' := by
  have hbel : Below w.heap.size w (w.alloc (.cells #[.int .i64 b.epoch, .int .i64 b.seq, .bool b.set, .int .i64 b.desired, .int .i64 b.minh, .int .i64 b.surplus, .int .i64 b.pool, .int .i64 b.hookIn, .int .i64 b.hookOut, .int .i64 b.warmup, .int .i64 b.drain, .int .i64 b.reap, .int .i64 b.timeout, .int .i64 b.fails, .int .i64 b.delay, .int .i64 b.version, .bool b.skip, .slice b.ma b.ml b.mc, .slice b.ia b.il b.ic, .slice b.ka b.kl b.kc, .int .u8 b.state, .int .i64 b.ffrom, .int .i64 b.target, .int .i64 b.step, .bool b.paused, .int .i64 b.since, .int .i64 b.rfails] 30)) := (Below.refl _ _).alloc (Nat.le_refl _) _
  go_enter Try.func9, Try.ntmps9
  go_wp2
  go_ret
  exact ⟨rfl, hbel⟩

set_option maxRecDepth 100000 in
set_option maxHeartbeats 8000000 in
theorem progress_high (b : Br) (kl : List Kp) (hsmall : kl.length ≤ 100) (hd : 1 ≤ b.desired) (w : World) (hk : KRow w w.heap.size (.slice b.ka b.kl b.kc) kl) :
    Calls Try.prog 9 #[.agg #[.int .i64 b.epoch, .int .i64 b.seq, .bool b.set, .int .i64 b.desired, .int .i64 b.minh, .int .i64 b.surplus, .int .i64 b.pool, .int .i64 b.hookIn, .int .i64 b.hookOut, .int .i64 b.warmup, .int .i64 b.drain, .int .i64 b.reap, .int .i64 b.timeout, .int .i64 b.fails, .int .i64 b.delay, .int .i64 b.version, .bool b.skip, .slice b.ma b.ml b.mc, .slice b.ia b.il b.ic, .slice b.ka b.kl b.kc, .int .u8 b.state, .int .i64 b.ffrom, .int .i64 b.target, .int .i64 b.step, .bool b.paused, .int .i64 b.since, .int .i64 b.rfails]] w fun e w' => e = .returned (.int .i64 (min 100 (100 * servB b kl / b.desired))) ∧ Below w.heap.size w w' := by
  have hbel : Below w.heap.size w (w.alloc (.cells #[.int .i64 b.epoch, .int .i64 b.seq, .bool b.set, .int .i64 b.desired, .int .i64 b.minh, .int .i64 b.surplus, .int .i64 b.pool, .int .i64 b.hookIn, .int .i64 b.hookOut, .int .i64 b.warmup, .int .i64 b.drain, .int .i64 b.reap, .int .i64 b.timeout, .int .i64 b.fails, .int .i64 b.delay, .int .i64 b.version, .bool b.skip, .slice b.ma b.ml b.mc, .slice b.ia b.il b.ic, .slice b.ka b.kl b.kc, .int .u8 b.state, .int .i64 b.ffrom, .int .i64 b.target, .int .i64 b.step, .bool b.paused, .int .i64 b.since, .int .i64 b.rfails] 30)) := (Below.refl _ _).alloc (Nat.le_refl _) _
  have hbx := BAt.new w b
  obtain ⟨l1, l2⟩ := hbx.facts
  have hb2 : ∀ o, Below w.heap.size w ((w.alloc (.cells #[.int .i64 b.epoch, .int .i64 b.seq, .bool b.set, .int .i64 b.desired, .int .i64 b.minh, .int .i64 b.surplus, .int .i64 b.pool, .int .i64 b.hookIn, .int .i64 b.hookOut, .int .i64 b.warmup, .int .i64 b.drain, .int .i64 b.reap, .int .i64 b.timeout, .int .i64 b.fails, .int .i64 b.delay, .int .i64 b.version, .bool b.skip, .slice b.ma b.ml b.mc, .slice b.ia b.il b.ic, .slice b.ka b.kl b.kc, .int .u8 b.state, .int .i64 b.ffrom, .int .i64 b.target, .int .i64 b.step, .bool b.paused, .int .i64 b.since, .int .i64 b.rfails] 30)).alloc o).drew := fun o => (hbel.alloc (by simp) o).drew
  have hx2 : ∀ o, BAt ((w.alloc (.cells #[.int .i64 b.epoch, .int .i64 b.seq, .bool b.set, .int .i64 b.desired, .int .i64 b.minh, .int .i64 b.surplus, .int .i64 b.pool, .int .i64 b.hookIn, .int .i64 b.hookOut, .int .i64 b.warmup, .int .i64 b.drain, .int .i64 b.reap, .int .i64 b.timeout, .int .i64 b.fails, .int .i64 b.delay, .int .i64 b.version, .bool b.skip, .slice b.ma b.ml b.mc, .slice b.ia b.il b.ic, .slice b.ka b.kl b.kc, .int .u8 b.state, .int .i64 b.ffrom, .int .i64 b.target, .int .i64 b.step, .bool b.paused, .int .i64 b.since, .int .i64 b.rfails] 30)).alloc o) w.heap.size b := fun o => hbx.below ((Below.refl (w.heap.size + 1) _).alloc (by simp) o) (by omega)
  have l3 := fun o => (hx2 o).loads
  have l4 := fun o => (hx2 o).row
  have l5 := fun o => (hx2 o).f3
  have l5' := hbx.f3
  have l0 : ∀ o, BAt ((w.alloc (.cells #[.int .i64 b.epoch, .int .i64 b.seq, .bool b.set, .int .i64 b.desired, .int .i64 b.minh, .int .i64 b.surplus, .int .i64 b.pool, .int .i64 b.hookIn, .int .i64 b.hookOut, .int .i64 b.warmup, .int .i64 b.drain, .int .i64 b.reap, .int .i64 b.timeout, .int .i64 b.fails, .int .i64 b.delay, .int .i64 b.version, .bool b.skip, .slice b.ma b.ml b.mc, .slice b.ia b.il b.ic, .slice b.ka b.kl b.kc, .int .u8 b.state, .int .i64 b.ffrom, .int .i64 b.target, .int .i64 b.step, .bool b.paused, .int .i64 b.since, .int .i64 b.rfails] 30)).alloc o).drew w.heap.size b := fun o => hx2 o
  have HK : ∀ o, Hid (KRow ((w.alloc (.cells #[.int .i64 b.epoch, .int .i64 b.seq, .bool b.set, .int .i64 b.desired, .int .i64 b.minh, .int .i64 b.surplus, .int .i64 b.pool, .int .i64 b.hookIn, .int .i64 b.hookOut, .int .i64 b.warmup, .int .i64 b.drain, .int .i64 b.reap, .int .i64 b.timeout, .int .i64 b.fails, .int .i64 b.delay, .int .i64 b.version, .bool b.skip, .slice b.ma b.ml b.mc, .slice b.ia b.il b.ic, .slice b.ka b.kl b.kc, .int .u8 b.state, .int .i64 b.ffrom, .int .i64 b.target, .int .i64 b.step, .bool b.paused, .int .i64 b.since, .int .i64 b.rfails] 30)).alloc o).drew ((w.alloc (.cells #[.int .i64 b.epoch, .int .i64 b.seq, .bool b.set, .int .i64 b.desired, .int .i64 b.minh, .int .i64 b.surplus, .int .i64 b.pool, .int .i64 b.hookIn, .int .i64 b.hookOut, .int .i64 b.warmup, .int .i64 b.drain, .int .i64 b.reap, .int .i64 b.timeout, .int .i64 b.fails, .int .i64 b.delay, .int .i64 b.version, .bool b.skip, .slice b.ma b.ml b.mc, .slice b.ia b.il b.ic, .slice b.ka b.kl b.kc, .int .u8 b.state, .int .i64 b.ffrom, .int .i64 b.target, .int .i64 b.step, .bool b.paused, .int .i64 b.since, .int .i64 b.rfails] 30)).alloc o).drew.heap.size (.slice b.ka b.kl b.kc) kl) := fun o => Lib.hid ((hk.below (hb2 o) (Nat.le_refl _)).mono (hb2 o).size)
  have HS : ∀ o, Hid (Calls Try.prog 10 #[.agg #[.int .i64 b.epoch, .int .i64 b.seq, .bool b.set, .int .i64 b.desired, .int .i64 b.minh, .int .i64 b.surplus, .int .i64 b.pool, .int .i64 b.hookIn, .int .i64 b.hookOut, .int .i64 b.warmup, .int .i64 b.drain, .int .i64 b.reap, .int .i64 b.timeout, .int .i64 b.fails, .int .i64 b.delay, .int .i64 b.version, .bool b.skip, .slice b.ma b.ml b.mc, .slice b.ia b.il b.ic, .slice b.ka b.kl b.kc, .int .u8 b.state, .int .i64 b.ffrom, .int .i64 b.target, .int .i64 b.step, .bool b.paused, .int .i64 b.since, .int .i64 b.rfails], .int .i64 (versionOf b)] ((w.alloc (.cells #[.int .i64 b.epoch, .int .i64 b.seq, .bool b.set, .int .i64 b.desired, .int .i64 b.minh, .int .i64 b.surplus, .int .i64 b.pool, .int .i64 b.hookIn, .int .i64 b.hookOut, .int .i64 b.warmup, .int .i64 b.drain, .int .i64 b.reap, .int .i64 b.timeout, .int .i64 b.fails, .int .i64 b.delay, .int .i64 b.version, .bool b.skip, .slice b.ma b.ml b.mc, .slice b.ia b.il b.ic, .slice b.ka b.kl b.kc, .int .u8 b.state, .int .i64 b.ffrom, .int .i64 b.target, .int .i64 b.step, .bool b.paused, .int .i64 b.since, .int .i64 b.rfails] 30)).alloc o).drew fun e W' => e = .returned (.int .i64 (countV (servs kl) (versionOf b))) ∧ Loads W' (.pointer (some ⟨w.heap.size, 0, none⟩)) ∧ rowOf W' (.pointer (some ⟨w.heap.size, 0, none⟩)) = #[.int .i64 b.epoch, .int .i64 b.seq, .bool b.set, .int .i64 b.desired, .int .i64 b.minh, .int .i64 b.surplus, .int .i64 b.pool, .int .i64 b.hookIn, .int .i64 b.hookOut, .int .i64 b.warmup, .int .i64 b.drain, .int .i64 b.reap, .int .i64 b.timeout, .int .i64 b.fails, .int .i64 b.delay, .int .i64 b.version, .bool b.skip, .slice b.ma b.ml b.mc, .slice b.ia b.il b.ic, .slice b.ka b.kl b.kc, .int .u8 b.state, .int .i64 b.ffrom, .int .i64 b.target, .int .i64 b.step, .bool b.paused, .int .i64 b.since, .int .i64 b.rfails] ∧ W'.cell? ⟨w.heap.size, 3, none⟩ = some (.int .i64 b.desired) ∧ Below w.heap.size w W') := fun o => Lib.hid ((serving_keep b (versionOf b) kl hsmall _ (HK o).out w.heap.size (by simp; omega) (l0 o)).mono fun _ _ ⟨h1, h2, h3, h4, h5⟩ => ⟨h1, h2, h3, h4, (hb2 o).trans (h5.mono (hb2 o).size)⟩)
  have hle := servB_le b kl
  unfold servB at hle ⊢
  generalize countV (servs kl) (versionOf b) = n at hle HS ⊢
  obtain ⟨e1, e2⟩ := hle
  have hdn : (b.desired == 0) = false := by simp; omega
  have hd0 : ¬ b.desired = 0 := by omega
  have w1 : IntKind.i64.wrap (100 * n) = 100 * n := IntWalk.i64_in _ (by omega)
  have e3 : 0 ≤ 100 * n := by omega
  have e4 : 0 ≤ 100 * n / b.desired := Int.ediv_nonneg e3 (by omega)
  have e5 : 100 * n / b.desired ≤ 100 * n := Int.ediv_le_self _ e3
  have w2 : IntKind.i64.wrap ((100 * n).tdiv b.desired) = 100 * n / b.desired := by
    rw [Int.tdiv_eq_ediv_of_nonneg e3]
    exact IntWalk.i64_in _ (by omega)
  generalize 100 * n / b.desired = q at w2 e4 e5 ⊢
  clear hk hbx hx2 HK l0 hb2
  go_enter Try.func9, Try.ntmps9
  go_wp2_with fail
  go_region_held3 (fun w' => Loads w' (.pointer (some ⟨w.heap.size, 0, none⟩)) ∧ rowOf w' (.pointer (some ⟨w.heap.size, 0, none⟩)) = #[.int .i64 b.epoch, .int .i64 b.seq, .bool b.set, .int .i64 b.desired, .int .i64 b.minh, .int .i64 b.surplus, .int .i64 b.pool, .int .i64 b.hookIn, .int .i64 b.hookOut, .int .i64 b.warmup, .int .i64 b.drain, .int .i64 b.reap, .int .i64 b.timeout, .int .i64 b.fails, .int .i64 b.delay, .int .i64 b.version, .bool b.skip, .slice b.ma b.ml b.mc, .slice b.ia b.il b.ic, .slice b.ka b.kl b.kc, .int .u8 b.state, .int .i64 b.ffrom, .int .i64 b.target, .int .i64 b.step, .bool b.paused, .int .i64 b.since, .int .i64 b.rfails] ∧ w'.cell? ⟨w.heap.size, 3, none⟩ = some (.int .i64 b.desired)) (first | exact ⟨l1, l2, l5'⟩ | exact ⟨l3 _, l4 _, l5 _⟩ | exact ⟨hc1, hc2, hc⟩) (first | (go_at_call 20; refine (version20 b _).mono ?_; rintro e w' ⟨rfl, rfl⟩) | (go_at_call 10; refine (HS _).out.mono ?_; rintro e w' ⟨rfl, hc1, hc2, hc, hb3⟩))
  go_wp2
  all_goals go_ret
  · exact ⟨ret_int (show q = min 100 q by omega), hb3⟩
  · exact ⟨ret_int (show (100 : Int) = min 100 q by omega), hb3⟩

def progB (b : Br) (kl : List Kp) : Int := if b.desired < 1 then 100 else min 100 (100 * servB b kl / b.desired)

theorem progress_any (b : Br) (kl : List Kp) (hsmall : kl.length ≤ 100) (w : World) (hk : KRow w w.heap.size (.slice b.ka b.kl b.kc) kl) :
    Calls Try.prog 9 #[.agg #[.int .i64 b.epoch, .int .i64 b.seq, .bool b.set, .int .i64 b.desired, .int .i64 b.minh, .int .i64 b.surplus, .int .i64 b.pool, .int .i64 b.hookIn, .int .i64 b.hookOut, .int .i64 b.warmup, .int .i64 b.drain, .int .i64 b.reap, .int .i64 b.timeout, .int .i64 b.fails, .int .i64 b.delay, .int .i64 b.version, .bool b.skip, .slice b.ma b.ml b.mc, .slice b.ia b.il b.ic, .slice b.ka b.kl b.kc, .int .u8 b.state, .int .i64 b.ffrom, .int .i64 b.target, .int .i64 b.step, .bool b.paused, .int .i64 b.since, .int .i64 b.rfails]] w fun e w' => e = .returned (.int .i64 (progB b kl)) ∧ Below w.heap.size w w' := by
  unfold progB
  by_cases h : b.desired < 1
  · rw [if_pos h]; exact progress_low b h w
  · rw [if_neg h]; exact progress_high b kl hsmall (by omega) w hk
end Go.Proofs.Ytpneohekghpkbaa
