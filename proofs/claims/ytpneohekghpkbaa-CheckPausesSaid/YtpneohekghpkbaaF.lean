/- The contracts of Over, Reached, Passed. -/
import Derived.Test.YtpneohekghpkbaaE
namespace Go.Proofs.Ytpneohekghpkbaa
open Go.RowKit Go.Shelf
attribute [local go_sem ↓] load_rule

def overB (b : Br) (now : Int) : Bool := activeB b true && decide (wrap64 (b.since + b.delay) ≤ now)

theorem active_c (b : Br) (p r : Bool) (hr : activeB b p = r) (w : World) : Calls Try.prog 23 #[.agg #[.int .i64 b.epoch, .int .i64 b.seq, .bool b.set, .int .i64 b.desired, .int .i64 b.minh, .int .i64 b.surplus, .int .i64 b.pool, .int .i64 b.hookIn, .int .i64 b.hookOut, .int .i64 b.warmup, .int .i64 b.drain, .int .i64 b.reap, .int .i64 b.timeout, .int .i64 b.fails, .int .i64 b.delay, .int .i64 b.version, .bool b.skip, .slice b.ma b.ml b.mc, .slice b.ia b.il b.ic, .slice b.ka b.kl b.kc, .int .u8 b.state, .int .i64 b.ffrom, .int .i64 b.target, .int .i64 b.step, .bool b.paused, .int .i64 b.since, .int .i64 b.rfails], .bool p] w fun e w' => e = .returned (.bool r) ∧ Below w.heap.size w w' := by
  subst hr; exact active_any b p w

set_option maxRecDepth 100000 in
set_option maxHeartbeats 1000000 in
theorem over_any (b : Br) (now : Int) (w : World) : Calls Try.prog 14 #[.agg #[.int .i64 b.epoch, .int .i64 b.seq, .bool b.set, .int .i64 b.desired, .int .i64 b.minh, .int .i64 b.surplus, .int .i64 b.pool, .int .i64 b.hookIn, .int .i64 b.hookOut, .int .i64 b.warmup, .int .i64 b.drain, .int .i64 b.reap, .int .i64 b.timeout, .int .i64 b.fails, .int .i64 b.delay, .int .i64 b.version, .bool b.skip, .slice b.ma b.ml b.mc, .slice b.ia b.il b.ic, .slice b.ka b.kl b.kc, .int .u8 b.state, .int .i64 b.ffrom, .int .i64 b.target, .int .i64 b.step, .bool b.paused, .int .i64 b.since, .int .i64 b.rfails], .int .i64 now] w fun e w' => e = .returned (.bool (overB b now)) ∧ Below w.heap.size w w' := by
  have hbel : Below w.heap.size w (w.alloc (.cells #[.int .i64 b.epoch, .int .i64 b.seq, .bool b.set, .int .i64 b.desired, .int .i64 b.minh, .int .i64 b.surplus, .int .i64 b.pool, .int .i64 b.hookIn, .int .i64 b.hookOut, .int .i64 b.warmup, .int .i64 b.drain, .int .i64 b.reap, .int .i64 b.timeout, .int .i64 b.fails, .int .i64 b.delay, .int .i64 b.version, .bool b.skip, .slice b.ma b.ml b.mc, .slice b.ia b.il b.ic, .slice b.ka b.kl b.kc, .int .u8 b.state, .int .i64 b.ffrom, .int .i64 b.target, .int .i64 b.step, .bool b.paused, .int .i64 b.since, .int .i64 b.rfails] 30)) := (Below.refl _ _).alloc (Nat.le_refl _) _
  have hbx := BAt.new w b
  obtain ⟨l1, l2⟩ := hbx.facts
  cases ha : activeB b true with
  | false =>
    have hr := Lib.hid (show overB b now = false by simp [overB, ha])
    have HA := Lib.hid ha
    clear ha hbx
    go_enter Try.func14, Try.ntmps14
    go_wp2_with fail
    refine (active_c b true false HA.out _).mono ?_
    rintro e w1 ⟨rfl, hb1⟩
    clear l1 l2
    go_wp2
    go_ret
    rw [hr.out]
    exact ⟨rfl, hbel.trans (hb1.mono hbel.size)⟩
  | true =>
    have hr := Lib.hid (show overB b now = decide (wrap64 (b.since + b.delay) ≤ now) by simp [overB, ha])
    have HA := Lib.hid ha
    clear ha
    go_enter Try.func14, Try.ntmps14
    go_wp2_with fail
    refine (active_c b true true HA.out _).mono ?_
    rintro e w1 ⟨rfl, hb1⟩
    have hx1 := hbx.below hb1 (by simp)
    have c14 := hx1.f14
    have c25 := hx1.f25
    clear l1 l2 hbx
    go_wp2
    go_ret
    rw [hr.out]
    exact ⟨rfl, hbel.trans (hb1.mono hbel.size)⟩

def reachedB (b : Br) (ms : List Int) (kl : List Kp) : Bool := (markB b ms).2 && (activeB b false && decide ((markB b ms).1 ≤ progB b kl))
def passedB (b : Br) (ms : List Int) : Bool := !(markB b ms).2 && b.state == 1

theorem mark_c (b : Br) (ms : List Int) (m : Int) (ok : Bool) (h1 : (markB b ms).1 = m) (h2 : (markB b ms).2 = ok) (w : World) (hm : IRow w w.heap.size b.ma b.ml ms) :
    Calls Try.prog 16 #[.agg #[.int .i64 b.epoch, .int .i64 b.seq, .bool b.set, .int .i64 b.desired, .int .i64 b.minh, .int .i64 b.surplus, .int .i64 b.pool, .int .i64 b.hookIn, .int .i64 b.hookOut, .int .i64 b.warmup, .int .i64 b.drain, .int .i64 b.reap, .int .i64 b.timeout, .int .i64 b.fails, .int .i64 b.delay, .int .i64 b.version, .bool b.skip, .slice b.ma b.ml b.mc, .slice b.ia b.il b.ic, .slice b.ka b.kl b.kc, .int .u8 b.state, .int .i64 b.ffrom, .int .i64 b.target, .int .i64 b.step, .bool b.paused, .int .i64 b.since, .int .i64 b.rfails]] w fun e w' => e = .returned (.tuple #[.int .i64 m, .bool ok]) ∧ Below w.heap.size w w' := by
  subst h1 h2; exact mark_any b ms w hm

set_option maxRecDepth 100000 in
set_option maxHeartbeats 1000000 in
theorem passed_any (b : Br) (ms : List Int) (w : World) (hm : IRow w w.heap.size b.ma b.ml ms) : Calls Try.prog 15 #[.agg #[.int .i64 b.epoch, .int .i64 b.seq, .bool b.set, .int .i64 b.desired, .int .i64 b.minh, .int .i64 b.surplus, .int .i64 b.pool, .int .i64 b.hookIn, .int .i64 b.hookOut, .int .i64 b.warmup, .int .i64 b.drain, .int .i64 b.reap, .int .i64 b.timeout, .int .i64 b.fails, .int .i64 b.delay, .int .i64 b.version, .bool b.skip, .slice b.ma b.ml b.mc, .slice b.ia b.il b.ic, .slice b.ka b.kl b.kc, .int .u8 b.state, .int .i64 b.ffrom, .int .i64 b.target, .int .i64 b.step, .bool b.paused, .int .i64 b.since, .int .i64 b.rfails]] w fun e w' => e = .returned (.bool (passedB b ms)) ∧ Below w.heap.size w w' := by
  have hbel : Below w.heap.size w (w.alloc (.cells #[.int .i64 b.epoch, .int .i64 b.seq, .bool b.set, .int .i64 b.desired, .int .i64 b.minh, .int .i64 b.surplus, .int .i64 b.pool, .int .i64 b.hookIn, .int .i64 b.hookOut, .int .i64 b.warmup, .int .i64 b.drain, .int .i64 b.reap, .int .i64 b.timeout, .int .i64 b.fails, .int .i64 b.delay, .int .i64 b.version, .bool b.skip, .slice b.ma b.ml b.mc, .slice b.ia b.il b.ic, .slice b.ka b.kl b.kc, .int .u8 b.state, .int .i64 b.ffrom, .int .i64 b.target, .int .i64 b.step, .bool b.paused, .int .i64 b.since, .int .i64 b.rfails] 30)) := (Below.refl _ _).alloc (Nat.le_refl _) _
  have hbx := BAt.new w b
  have hm' := (hm.below hbel (Nat.le_refl _)).mono hbel.size
  obtain ⟨l1, l2⟩ := hbx.facts
  cases h2 : (markB b ms).2 with
  | true =>
    have hr := Lib.hid (show passedB b ms = false by simp [passedB, h2])
    have HM := Lib.hid (mark_c b ms _ true rfl h2 _ hm')
    generalize (markB b ms).1 = m at HM
    clear h2 hbx hm hm'
    go_enter Try.func15, Try.ntmps15
    go_wp2_with fail
    refine HM.out.mono ?_
    rintro e w1 ⟨rfl, hb1⟩
    clear l1 l2
    go_wp2
    go_ret
    rw [hr.out]
    exact ⟨rfl, hbel.trans (hb1.mono hbel.size)⟩
  | false =>
    have hr := Lib.hid (show passedB b ms = (b.state == 1) by simp [passedB, h2])
    have HM := Lib.hid (mark_c b ms _ false rfl h2 _ hm')
    generalize (markB b ms).1 = m at HM
    clear h2 hm hm'
    go_enter Try.func15, Try.ntmps15
    go_wp2_with fail
    refine HM.out.mono ?_
    rintro e w1 ⟨rfl, hb1⟩
    have c20 := (hbx.below hb1 (by simp)).f20
    clear l1 l2 hbx
    go_wp2
    go_ret
    rw [hr.out]
    exact ⟨rfl, hbel.trans (hb1.mono hbel.size)⟩

set_option maxRecDepth 100000 in
set_option maxHeartbeats 1000000 in
theorem reached_any (b : Br) (ms : List Int) (kl : List Kp) (hsmall : kl.length ≤ 100) (w : World) (hm : IRow w w.heap.size b.ma b.ml ms) (hk : KRow w w.heap.size (.slice b.ka b.kl b.kc) kl) :
    Calls Try.prog 13 #[.agg #[.int .i64 b.epoch, .int .i64 b.seq, .bool b.set, .int .i64 b.desired, .int .i64 b.minh, .int .i64 b.surplus, .int .i64 b.pool, .int .i64 b.hookIn, .int .i64 b.hookOut, .int .i64 b.warmup, .int .i64 b.drain, .int .i64 b.reap, .int .i64 b.timeout, .int .i64 b.fails, .int .i64 b.delay, .int .i64 b.version, .bool b.skip, .slice b.ma b.ml b.mc, .slice b.ia b.il b.ic, .slice b.ka b.kl b.kc, .int .u8 b.state, .int .i64 b.ffrom, .int .i64 b.target, .int .i64 b.step, .bool b.paused, .int .i64 b.since, .int .i64 b.rfails]] w fun e w' => e = .returned (.bool (reachedB b ms kl)) ∧ Below w.heap.size w w' := by
  have hbel : Below w.heap.size w (w.alloc (.cells #[.int .i64 b.epoch, .int .i64 b.seq, .bool b.set, .int .i64 b.desired, .int .i64 b.minh, .int .i64 b.surplus, .int .i64 b.pool, .int .i64 b.hookIn, .int .i64 b.hookOut, .int .i64 b.warmup, .int .i64 b.drain, .int .i64 b.reap, .int .i64 b.timeout, .int .i64 b.fails, .int .i64 b.delay, .int .i64 b.version, .bool b.skip, .slice b.ma b.ml b.mc, .slice b.ia b.il b.ic, .slice b.ka b.kl b.kc, .int .u8 b.state, .int .i64 b.ffrom, .int .i64 b.target, .int .i64 b.step, .bool b.paused, .int .i64 b.since, .int .i64 b.rfails] 30)) := (Below.refl _ _).alloc (Nat.le_refl _) _
  have hbx := BAt.new w b
  have hm' := (hm.below hbel (Nat.le_refl _)).mono hbel.size
  obtain ⟨l1, l2⟩ := hbx.facts
  cases h2 : (markB b ms).2 with
  | false =>
    have hr := Lib.hid (show reachedB b ms kl = false by simp [reachedB, h2])
    have HM := Lib.hid (mark_c b ms _ false rfl h2 _ hm')
    generalize (markB b ms).1 = m at HM
    clear h2 hbx hm hm' hk
    go_enter Try.func13, Try.ntmps13
    go_wp2_with fail
    refine HM.out.mono ?_
    rintro e w1 ⟨rfl, hb1⟩
    clear l1 l2
    go_wp2
    go_ret
    rw [hr.out]
    exact ⟨rfl, hbel.trans (hb1.mono hbel.size)⟩
  | true =>
    cases h3 : activeB b false with
    | false =>
      have hr := Lib.hid (show reachedB b ms kl = false by simp [reachedB, h2, h3])
      have HM := Lib.hid (mark_c b ms _ true rfl h2 _ hm')
      have HA := Lib.hid h3
      generalize (markB b ms).1 = m at HM
      clear h2 h3 hm hm' hk
      go_enter Try.func13, Try.ntmps13
      go_wp2_with fail
      refine HM.out.mono ?_
      rintro e w1 ⟨rfl, hb1⟩
      obtain ⟨k1, k2⟩ := (hbx.below hb1 (by simp)).facts
      clear l1 l2 hbx
      go_wp2_with fail
      refine (active_c b false false HA.out _).mono ?_
      rintro e w2 ⟨rfl, hb2⟩
      clear k1 k2
      go_wp2
      go_ret
      rw [hr.out]
      exact ⟨rfl, hbel.trans ((hb1.trans (hb2.mono hb1.size)).mono hbel.size)⟩
    | true =>
      have hr := Lib.hid (show reachedB b ms kl = decide ((markB b ms).1 ≤ progB b kl) by simp [reachedB, h2, h3])
      have HM := Lib.hid (mark_c b ms _ true rfl h2 _ hm')
      have HA := Lib.hid h3
      have HK := Lib.hid hk
      generalize (markB b ms).1 = m at HM hr
      clear h2 h3 hm hm' hk
      go_enter Try.func13, Try.ntmps13
      go_wp2_with fail
      refine HM.out.mono ?_
      rintro e w1 ⟨rfl, hb1⟩
      have hx1 := hbx.below hb1 (by simp)
      obtain ⟨k1, k2⟩ := hx1.facts
      clear l1 l2 hbx
      go_wp2_with fail
      refine (active_c b false true HA.out _).mono ?_
      rintro e w2 ⟨rfl, hb2⟩
      have hb12 := hbel.trans ((hb1.trans (hb2.mono hb1.size)).mono hbel.size)
      obtain ⟨k3, k4⟩ := (hx1.below hb2 hx1.lt).facts
      clear k1 k2 hx1 hbel hb1 hb2
      go_wp2_with fail
      refine (progress_any b kl hsmall _ ((HK.out.below hb12 (Nat.le_refl _)).mono hb12.size)).mono ?_
      rintro e w3 ⟨rfl, hb3⟩
      clear k3 k4
      go_wp2
      go_ret
      rw [hr.out]
      exact ⟨rfl, hb12.trans (hb3.mono hb12.size)⟩
end Go.Proofs.Ytpneohekghpkbaa
