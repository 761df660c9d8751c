/- The walk of CheckOver. -/
import Derived.Test.YtpneohekghpkbaaS
import Derived.Test.YtpneohekghpkbaaO
namespace Go.Proofs.Ytpneohekghpkbaa
open Go.RowKit Go.Shelf
attribute [local go_sem ↓] load_rule
attribute [local go_sem ↓] store_rule
attribute [local go_sem] loads_drew rowOf_drew loads_drewN rowOf_drewN

/-- What stands, all along the walk. -/
structure FB (b : Br) (ms : List Int) (is : List It) (kl : List Kp) (w W : World) : Prop where
  x : BAt W w.heap.size b
  m : IRow W w.heap.size b.ma b.ml ms
  i : TRow W w.heap.size b.ia b.il is
  k : KRow W w.heap.size (.slice b.ka b.kl b.kc) kl
  s : w.heap.size + 1 ≤ W.heap.size
  b : Below w.heap.size w W
theorem FB.next {b : Br} {ms : List Int} {is : List It} {kl : List Kp} {w W W' : World} (h : FB b ms is kl w W) (hb : Below W.heap.size W W') : FB b ms is kl w W' := by
  have hs := h.s
  exact ⟨h.x.below hb (by omega), h.m.below hb (by omega), h.i.below hb (by omega), h.k.below hb (by omega), by have := hb.size; omega, h.b.trans (hb.mono (by omega))⟩

theorem refreshB_keeps (k x : Int) (b : Br) : (refreshB k x b).ma = b.ma ∧ (refreshB k x b).ml = b.ml ∧ (refreshB k x b).mc = b.mc ∧ (refreshB k x b).ia = b.ia ∧ (refreshB k x b).il = b.il ∧ (refreshB k x b).ic = b.ic ∧
    (refreshB k x b).ka = b.ka ∧ (refreshB k x b).kl = b.kl ∧ (refreshB k x b).kc = b.kc ∧ (refreshB k x b).state = b.state := by
  unfold refreshB
  split
  · split <;> split <;> simp
  · simp

/-- A brain that Apply has made lies in block O. -/
structure FC (c : Br) (ms : List Int) (is : List It) (kl : List Kp) (O : Nat) (W : World) : Prop where
  x : BAt W O c
  m : IRow W O c.ma c.ml ms
  i : TRow W O c.ia c.il is
  k : KRow W O (.slice c.ka c.kl c.kc) kl
theorem FC.next {c : Br} {ms : List Int} {is : List It} {kl : List Kp} {O : Nat} {W W' : World} (h : FC c ms is kl O W) (hb : Below W.heap.size W W') : FC c ms is kl O W' := by
  have hs := h.x.lt
  exact ⟨h.x.below hb (by omega), h.m.below hb (by omega), h.i.below hb (by omega), h.k.below hb (by omega)⟩

theorem over_mono (b : Br) (now th : Int) (h : now ≤ th) (ho : overB b now = true) : overB b th = true := by
  simp only [overB, Bool.and_eq_true, decide_eq_true_iff] at ho ⊢
  exact ⟨ho.1, by omega⟩

/-- Both brains, as they stand. -/
def G2 (b c : Br) (ms : List Int) (is : List It) (kl : List Kp) (w : World) (O : Nat) (W : World) : Prop := FB b ms is kl w W ∧ FC c ms is kl O W
def G2s (b c : Br) (ms : List Int) (is : List It) (kl : List Kp) (w : World) (O : Nat) (W : World) : Prop :=
  Hid (G2 b c ms is kl w O W) ∧ Loads W (.pointer (some ⟨O, 0, none⟩)) ∧ rowOf W (.pointer (some ⟨O, 0, none⟩)) = #[.int .i64 c.epoch, .int .i64 c.seq, .bool c.set, .int .i64 c.desired, .int .i64 c.minh, .int .i64 c.surplus, .int .i64 c.pool, .int .i64 c.hookIn, .int .i64 c.hookOut, .int .i64 c.warmup, .int .i64 c.drain, .int .i64 c.reap, .int .i64 c.timeout, .int .i64 c.fails, .int .i64 c.delay, .int .i64 c.version, .bool c.skip, .slice c.ma c.ml c.mc, .slice c.ia c.il c.ic, .slice c.ka c.kl c.kc, .int .u8 c.state, .int .i64 c.ffrom, .int .i64 c.target, .int .i64 c.step, .bool c.paused, .int .i64 c.since, .int .i64 c.rfails] ∧ Loads W (.pointer (some ⟨w.heap.size, 0, none⟩)) ∧ rowOf W (.pointer (some ⟨w.heap.size, 0, none⟩)) = #[.int .i64 b.epoch, .int .i64 b.seq, .bool b.set, .int .i64 b.desired, .int .i64 b.minh, .int .i64 b.surplus, .int .i64 b.pool, .int .i64 b.hookIn, .int .i64 b.hookOut, .int .i64 b.warmup, .int .i64 b.drain, .int .i64 b.reap, .int .i64 b.timeout, .int .i64 b.fails, .int .i64 b.delay, .int .i64 b.version, .bool b.skip, .slice b.ma b.ml b.mc, .slice b.ia b.il b.ic, .slice b.ka b.kl b.kc, .int .u8 b.state, .int .i64 b.ffrom, .int .i64 b.target, .int .i64 b.step, .bool b.paused, .int .i64 b.since, .int .i64 b.rfails] ∧ W.cell? ⟨w.heap.size, 14, none⟩ = some (.int .i64 b.delay)
section
variable {b c : Br} {ms : List Int} {is : List It} {kl : List Kp} {w : World} {O : Nat} {W : World}
theorem G2.all (h : G2 b c ms is kl w O W) : G2s b c ms is kl w O W := ⟨Lib.hid h, h.2.x.loads, h.2.x.row, h.1.x.loads, h.1.x.row, h.1.x.f14⟩
theorem G2.next {W' : World} (h : Hid (G2 b c ms is kl w O W)) (hb : Below W.heap.size W W') : G2s b c ms is kl w O W' := G2.all ⟨h.out.1.next hb, h.out.2.next hb⟩
theorem G2.drewN (h : Hid (G2 b c ms is kl w O W)) (n : Nat) : Hid (G2 b c ms is kl w O (W.drewN n)) := (G2.next h (below_drewN (Below.refl _ _) n)).1
theorem g_over (now : Int) (r : Bool) (hr : overB c now = r) (h : Hid (G2 b c ms is kl w O W)) : Calls Try.prog 14 #[.agg #[.int .i64 c.epoch, .int .i64 c.seq, .bool c.set, .int .i64 c.desired, .int .i64 c.minh, .int .i64 c.surplus, .int .i64 c.pool, .int .i64 c.hookIn, .int .i64 c.hookOut, .int .i64 c.warmup, .int .i64 c.drain, .int .i64 c.reap, .int .i64 c.timeout, .int .i64 c.fails, .int .i64 c.delay, .int .i64 c.version, .bool c.skip, .slice c.ma c.ml c.mc, .slice c.ia c.il c.ic, .slice c.ka c.kl c.kc, .int .u8 c.state, .int .i64 c.ffrom, .int .i64 c.target, .int .i64 c.step, .bool c.paused, .int .i64 c.since, .int .i64 c.rfails], .int .i64 now] W fun e W' => e = .returned (.bool r) ∧ G2s b c ms is kl w O W' :=
  (over_c c now r hr W).mono fun _ _ ⟨he, hb⟩ => ⟨he, G2.next h hb⟩
theorem g_reached (hsm : kl.length ≤ 40) (r : Bool) (hr : reachedB c ms kl = r) (h : Hid (G2 b c ms is kl w O W)) : Calls Try.prog 13 #[.agg #[.int .i64 c.epoch, .int .i64 c.seq, .bool c.set, .int .i64 c.desired, .int .i64 c.minh, .int .i64 c.surplus, .int .i64 c.pool, .int .i64 c.hookIn, .int .i64 c.hookOut, .int .i64 c.warmup, .int .i64 c.drain, .int .i64 c.reap, .int .i64 c.timeout, .int .i64 c.fails, .int .i64 c.delay, .int .i64 c.version, .bool c.skip, .slice c.ma c.ml c.mc, .slice c.ia c.il c.ic, .slice c.ka c.kl c.kc, .int .u8 c.state, .int .i64 c.ffrom, .int .i64 c.target, .int .i64 c.step, .bool c.paused, .int .i64 c.since, .int .i64 c.rfails]] W fun e W' => e = .returned (.bool r) ∧ G2s b c ms is kl w O W' :=
  (reached_c c ms kl (by omega) r hr W (h.out.2.m.mono (by have := h.out.2.x.lt; omega)) (h.out.2.k.mono (by have := h.out.2.x.lt; omega))).mono fun _ _ ⟨he, hb⟩ => ⟨he, G2.next h hb⟩
theorem g_prog (hsm : kl.length ≤ 40) (p : Int) (hp : progB c kl = p) (h : Hid (G2 b c ms is kl w O W)) : Calls Try.prog 9 #[.agg #[.int .i64 c.epoch, .int .i64 c.seq, .bool c.set, .int .i64 c.desired, .int .i64 c.minh, .int .i64 c.surplus, .int .i64 c.pool, .int .i64 c.hookIn, .int .i64 c.hookOut, .int .i64 c.warmup, .int .i64 c.drain, .int .i64 c.reap, .int .i64 c.timeout, .int .i64 c.fails, .int .i64 c.delay, .int .i64 c.version, .bool c.skip, .slice c.ma c.ml c.mc, .slice c.ia c.il c.ic, .slice c.ka c.kl c.kc, .int .u8 c.state, .int .i64 c.ffrom, .int .i64 c.target, .int .i64 c.step, .bool c.paused, .int .i64 c.since, .int .i64 c.rfails]] W fun e W' => e = .returned (.int .i64 p) ∧ G2s b c ms is kl w O W' :=
  (progress_c c kl (by omega) p hp W (h.out.2.k.mono (by have := h.out.2.x.lt; omega))).mono fun _ _ ⟨he, hb⟩ => ⟨he, G2.next h hb⟩
theorem g_progB (hsm : kl.length ≤ 40) (p : Int) (hp : progB b kl = p) (h : Hid (G2 b c ms is kl w O W)) : Calls Try.prog 9 #[.agg #[.int .i64 b.epoch, .int .i64 b.seq, .bool b.set, .int .i64 b.desired, .int .i64 b.minh, .int .i64 b.surplus, .int .i64 b.pool, .int .i64 b.hookIn, .int .i64 b.hookOut, .int .i64 b.warmup, .int .i64 b.drain, .int .i64 b.reap, .int .i64 b.timeout, .int .i64 b.fails, .int .i64 b.delay, .int .i64 b.version, .bool b.skip, .slice b.ma b.ml b.mc, .slice b.ia b.il b.ic, .slice b.ka b.kl b.kc, .int .u8 b.state, .int .i64 b.ffrom, .int .i64 b.target, .int .i64 b.step, .bool b.paused, .int .i64 b.since, .int .i64 b.rfails]] W fun e W' => e = .returned (.int .i64 p) ∧ G2s b c ms is kl w O W' :=
  (progress_c b kl (by omega) p hp W (h.out.1.k.mono (by have := h.out.1.s; omega))).mono fun _ _ ⟨he, hb⟩ => ⟨he, G2.next h hb⟩
theorem g_wakes (h : Hid (G2 b c ms is kl w O W)) : Calls Try.prog 8 #[] W fun e W' => e = .returned (.bool true) ∧ G2s b c ms is kl w O W' :=
  (wakes_true W).mono fun _ _ ⟨he, hb⟩ => ⟨he, G2.next h hb⟩
end

/-- The plain law of CheckOver: of what a pause makes of a brain. -/
theorem over_plain (b : Br) (now th : Int) (ms : List Int) (kl : List Kp) (hs : b.state = 1) (hp : b.paused = false) (hd : 0 ≤ b.delay ∧ b.delay ≤ 20) (h1 : 0 ≤ now) (h2 : now ≤ th) (h3 : th ≤ 1073741824) (a1 : Option Addr) (c1 : Nat) (a2 : Option Addr) (c2 : Nat) (a3 : Option Addr) (c3 : Nat) (c : Br) (hc : c = refreshB 14 now (b.own a1 c1 a2 c2 a3 c3)) :
    overB c th = decide (b.delay ≤ th - now) ∧ reachedB c ms kl = false ∧ progB c kl = progB b kl := by
  have e : c = { b.own a1 c1 a2 c2 a3 c3 with paused := true, since := now } := by
    rw [hc]; exact refreshB_pause (b := b.own a1 c1 a2 c2 a3 c3) hs hp
  subst e
  refine ⟨?_, ?_, rfl⟩
  · have hw : wrap64 (now + b.delay) = now + b.delay := IntWalk.wrap64_in _ (by omega)
    have ha : activeB { b.own a1 c1 a2 c2 a3 c3 with paused := true, since := now } true = true := by simp [activeB, Br.own, hs]
    have ho : overB { b.own a1 c1 a2 c2 a3 c3 with paused := true, since := now } th = (activeB { b.own a1 c1 a2 c2 a3 c3 with paused := true, since := now } true && decide (wrap64 (now + b.delay) ≤ th)) := rfl
    rw [ho, ha, hw, Bool.true_and]
    exact decide_eq_decide.2 (by omega)
  · have ha : activeB { b.own a1 c1 a2 c2 a3 c3 with paused := true, since := now } false = false := by simp [activeB]
    unfold reachedB
    rw [ha]
    simp

set_option maxRecDepth 100000 in
set_option maxHeartbeats 1000000 in
theorem checkOver_any (b : Br) (now th : Int) (ms : List Int) (is : List It) (kl : List Kp) (w : World) (hm : IRow w w.heap.size b.ma b.ml ms) (hi : TRow w w.heap.size b.ia b.il is) (hk : KRow w w.heap.size (.slice b.ka b.kl b.kc) kl) :
    Calls Try.prog 5 #[.agg #[.int .i64 b.epoch, .int .i64 b.seq, .bool b.set, .int .i64 b.desired, .int .i64 b.minh, .int .i64 b.surplus, .int .i64 b.pool, .int .i64 b.hookIn, .int .i64 b.hookOut, .int .i64 b.warmup, .int .i64 b.drain, .int .i64 b.reap, .int .i64 b.timeout, .int .i64 b.fails, .int .i64 b.delay, .int .i64 b.version, .bool b.skip, .slice b.ma b.ml b.mc, .slice b.ia b.il b.ic, .slice b.ka b.kl b.kc, .int .u8 b.state, .int .i64 b.ffrom, .int .i64 b.target, .int .i64 b.step, .bool b.paused, .int .i64 b.since, .int .i64 b.rfails], .int .i64 now, .int .i64 th] w (TruePost w) := by
  obtain ⟨W1, hW1⟩ : ∃ W1, w.alloc (.cells #[.int .i64 b.epoch, .int .i64 b.seq, .bool b.set, .int .i64 b.desired, .int .i64 b.minh, .int .i64 b.surplus, .int .i64 b.pool, .int .i64 b.hookIn, .int .i64 b.hookOut, .int .i64 b.warmup, .int .i64 b.drain, .int .i64 b.reap, .int .i64 b.timeout, .int .i64 b.fails, .int .i64 b.delay, .int .i64 b.version, .bool b.skip, .slice b.ma b.ml b.mc, .slice b.ia b.il b.ic, .slice b.ka b.kl b.kc, .int .u8 b.state, .int .i64 b.ffrom, .int .i64 b.target, .int .i64 b.step, .bool b.paused, .int .i64 b.since, .int .i64 b.rfails] 30) = W1 := ⟨_, rfl⟩
  have x1 : BAt W1 w.heap.size b := by rw [← hW1]; exact BAt.new w b
  have n1 : W1.heap.size = w.heap.size + 1 := by rw [← hW1]; simp
  have bw1 : Below w.heap.size w W1 := by rw [← hW1]; exact (Below.refl _ _).alloc (Nat.le_refl _) _
  have F : FB b ms is kl w W1 := ⟨x1, hm.below bw1 (Nat.le_refl _), hi.below bw1 (Nat.le_refl _), hk.below bw1 (Nat.le_refl _), by omega, bw1⟩
  obtain ⟨l1, l2⟩ := F.x.facts
  have F1 := Lib.hid F
  clear x1 bw1 F hm hi hk n1
  go_enter Try.func5, Try.ntmps5
  cases hg : greatB b with
  | true =>
    have HG := Lib.hid hg
    clear hg
    go_wp2_with fail
    refine (great_c b true HG.out _).mono ?_
    rintro e W3 ⟨rfl, hb⟩
    clear l1 l2
    go_wp2_with fail
    refine (wakes_true _).mono ?_
    rintro e W4 ⟨rfl, hb4⟩
    go_wp2
    go_ret
    have hF := F1.out.next hb
    exact ⟨rfl, hF.b.trans (hb4.mono (by have := hF.s; omega))⟩
  | false =>
  obtain ⟨gi, gk, gm⟩ := great_no hg
  have HG := Lib.hid hg
  clear hg
  go_wp2_with fail
  refine (great_c b false HG.out _).mono ?_
  rintro e W3 ⟨rfl, hb⟩
  have F3 := Lib.hid (F1.out.next hb)
  clear l1 l2 hb F1 HG
  obtain ⟨l1, l2⟩ := F3.out.x.facts
  go_wp2_with fail
  refine (right_any b gi gk ms is kl W3 (F3.out.m.mono (by have := F3.out.s; omega)) (F3.out.i.mono (by have := F3.out.s; omega)) (F3.out.k.mono (by have := F3.out.s; omega))).mono ?_
  rintro e W4 ⟨r, rfl, hr, hb⟩
  have HR := Lib.hid hr
  have F4 := Lib.hid (F3.out.next hb)
  clear l1 l2 hb F3 hr
  cases r with
  | false =>
    go_wp2_with fail
    refine (wakes_true _).mono ?_
    rintro e W5 ⟨rfl, hb5⟩
    go_wp2
    go_ret
    exact ⟨rfl, F4.out.b.trans (hb5.mono (by have := F4.out.s; omega))⟩
  | true =>
  cases d1 : decide (now < 0) with
  | true =>
    go_wp2_with fail
    refine (wakes_true _).mono ?_
    rintro e W5 ⟨rfl, hb5⟩
    go_wp2
    go_ret
    exact ⟨rfl, F4.out.b.trans (hb5.mono (by have := F4.out.s; omega))⟩
  | false =>
  cases d2 : decide (th < now) with
  | true =>
    go_wp2_with fail
    refine (wakes_true _).mono ?_
    rintro e W5 ⟨rfl, hb5⟩
    go_wp2
    go_ret
    exact ⟨rfl, F4.out.b.trans (hb5.mono (by have := F4.out.s; omega))⟩
  | false =>
  cases d3 : decide (1073741824 < th) with
  | true =>
    go_wp2_with fail
    refine (wakes_true _).mono ?_
    rintro e W5 ⟨rfl, hb5⟩
    go_wp2
    go_ret
    exact ⟨rfl, F4.out.b.trans (hb5.mono (by have := F4.out.s; omega))⟩
  | false =>
  have T1 : Hid (0 ≤ now ∧ now ≤ th ∧ th ≤ 1073741824) := Lib.hid (by simp only [decide_eq_false_iff_not] at d1 d2 d3; omega)
  obtain ⟨l1, l2⟩ := F4.out.x.facts
  obtain ⟨W5, hW5⟩ : ∃ W5, W4.alloc (.cells #[.int .i64 now] 3) = W5 := ⟨_, rfl⟩
  have b45 : Below W4.heap.size W4 W5 := by rw [← hW5]; exact (Below.refl _ _).alloc (Nat.le_refl _) _
  have F5 := Lib.hid (F4.out.next b45)
  have HL : Hid (LRow W5 W5.heap.size (.slice (some ⟨W4.heap.size, 0, none⟩) 1 1) (some now)) := Lib.hid (by
    have h := T1.out
    refine ⟨W4.heap.size, 1, rfl, by rw [← hW5]; simp, ?_, by omega, by omega⟩
    rw [← hW5]
    exact (cell_new_l W4 _ _).1)
  clear b45
  go_wp2_with fail
  refine (apply14 b now ms is kl W4.heap.size 1 W5 HL.out gm gi gk (F5.out.m.mono (by have := F5.out.s; omega)).row (F5.out.i.mono (by have := F5.out.s; omega)).row (F5.out.k.mono (by have := F5.out.s; omega)).row).mono ?_
  rintro e W6 ⟨a1, c1, a2, c2, a3, c3, c, hc, rfl, r1, r2, r3, b6⟩
  obtain ⟨W7, s1, s2, x7, b7, n7⟩ := new_store W6 c W6.heap.size rfl
  unfold zB at s1 s2
  have F7 := Lib.hid (F5.out.next (b6.trans (b7.mono b6.size)))
  have hkeep := refreshB_keeps 14 now (b.own a1 c1 a2 c2 a3 c3)
  rw [← hc] at hkeep
  obtain ⟨t1, t2, t3, t4, t5, t6, t7, t8, t9, t10⟩ := hkeep
  have C7 : Hid (FC c ms is kl W6.heap.size W7) := Lib.hid ⟨x7, by rw [t1, t2]; exact ((row_own r1).below b7 (Nat.le_refl _)).irow F5.out.m.1, by rw [t4, t5]; exact ((row_own r2).below b7 (Nat.le_refl _)).trow F5.out.i.1, by rw [t7, t8, t9]; exact ((row_own r3).below b7 (Nat.le_refl _)).krow c3 F5.out.k.open.1⟩
  have HC := Lib.hid hc
  clear hc t1 t2 t3 t4 t5 t6 t7 t8 t9 t10 r1 r2 r3 b6 b7 n7 x7 l1 l2
  have f20 := F7.out.x.f20
  have f24 := F7.out.x.f24
  by_cases hst : ¬ b.state = 1
  · skip
    obtain ⟨l1, l2⟩ := F7.out.x.facts
    obtain ⟨o1, ho1⟩ : ∃ r, overB b now = r := ⟨_, rfl⟩
    have HO := Lib.hid ho1
    clear ho1 d1 d2 d3
    go_wp2_with fail
    refine (over_c b now o1 HO.out _).mono ?_
    rintro e W8 ⟨rfl, hb⟩
    have F8 := Lib.hid (F7.out.next hb)
    clear l1 l2 hb s1 s2 f20 f24
    cases o1 with
    | false =>
      go_wp2_with fail
      refine (wakes_true _).mono ?_
      rintro e W9 ⟨rfl, hb9⟩
      go_wp2
      go_ret
      exact ⟨rfl, F8.out.b.trans (hb9.mono (by have := F8.out.s; omega))⟩
    | true =>
      obtain ⟨l1, l2⟩ := F8.out.x.facts
      go_wp2_with fail
      refine (over_c b th true (over_mono b now th T1.out.2.1 HO.out) _).mono ?_
      rintro e W9 ⟨rfl, hb9⟩
      have F9 := Lib.hid (F8.out.next hb9)
      clear l1 l2 hb9
      go_wp2_with fail
      refine (wakes_true _).mono ?_
      rintro e W10 ⟨rfl, hb10⟩
      go_wp2
      go_ret
      exact ⟨rfl, F9.out.b.trans (hb10.mono (by have := F9.out.s; omega))⟩
  replace hst := Classical.not_not.1 hst
  rw [hst] at f20
  have HST := Lib.hid hst
  clear hst
  by_cases hp : b.paused = true
  · rw [hp] at f24
    obtain ⟨l1, l2⟩ := F7.out.x.facts
    have HP := Lib.hid hp
    clear hp
    obtain ⟨o1, ho1⟩ : ∃ r, overB b now = r := ⟨_, rfl⟩
    have HO := Lib.hid ho1
    clear ho1 d1 d2 d3
    go_wp2_with fail
    refine (over_c b now o1 HO.out _).mono ?_
    rintro e W8 ⟨rfl, hb⟩
    have F8 := Lib.hid (F7.out.next hb)
    clear l1 l2 hb s1 s2 f20 f24
    cases o1 with
    | false =>
      go_wp2_with fail
      refine (wakes_true _).mono ?_
      rintro e W9 ⟨rfl, hb9⟩
      go_wp2
      go_ret
      exact ⟨rfl, F8.out.b.trans (hb9.mono (by have := F8.out.s; omega))⟩
    | true =>
      obtain ⟨l1, l2⟩ := F8.out.x.facts
      go_wp2_with fail
      refine (over_c b th true (over_mono b now th T1.out.2.1 HO.out) _).mono ?_
      rintro e W9 ⟨rfl, hb9⟩
      have F9 := Lib.hid (F8.out.next hb9)
      clear l1 l2 hb9
      go_wp2_with fail
      refine (wakes_true _).mono ?_
      rintro e W10 ⟨rfl, hb10⟩
      go_wp2
      go_ret
      exact ⟨rfl, F9.out.b.trans (hb10.mono (by have := F9.out.s; omega))⟩
  · replace hp := Bool.eq_false_iff.2 hp
    rw [hp] at f24
    have hst : b.state = 1 := HST.out
    have hset : b.set = true := by
      by_cases h : b.set = true
      · exact h
      · have := (HR.out trivial).2 (Bool.eq_false_iff.2 h)
        omega
    have FIT := (HR.out trivial).1 hset
    obtain ⟨p1, p2, p3⟩ := over_plain b now th ms kl hst hp FIT.2 T1.out.1 T1.out.2.1 T1.out.2.2 a1 c1 a2 c2 a3 c3 c HC.out
    have w1 : IntKind.i64.wrap (th - now) = th - now := IntWalk.i64_in _ (by have := T1.out; omega)
    have hsm : kl.length ≤ 40 := by have := F7.out.k.open.1; omega
    obtain ⟨q, hq⟩ : ∃ q, progB b kl = q := ⟨_, rfl⟩
    have P1 := Lib.hid p1
    have P2 := Lib.hid p2
    have P3 := Lib.hid (p3.trans hq)
    have Q := Lib.hid hq
    have HSM := Lib.hid hsm
    have HP := Lib.hid hp
    obtain ⟨hG, i1, i2, i3, i4, i5⟩ := G2.all ⟨F7.out, C7.out⟩
    clear p1 p2 p3 hq hsm hp hst hset FIT d1 d2 d3
    obtain ⟨r, hr⟩ : ∃ r, decide (b.delay ≤ th - now) = r := ⟨_, rfl⟩
    have P4 := Lib.hid (P1.out.trans hr)
    have tO : ∀ W, Hid (G2 b c ms is kl w W6.heap.size W) → Hid (Calls Try.prog 14 #[.agg #[.int .i64 c.epoch, .int .i64 c.seq, .bool c.set, .int .i64 c.desired, .int .i64 c.minh, .int .i64 c.surplus, .int .i64 c.pool, .int .i64 c.hookIn, .int .i64 c.hookOut, .int .i64 c.warmup, .int .i64 c.drain, .int .i64 c.reap, .int .i64 c.timeout, .int .i64 c.fails, .int .i64 c.delay, .int .i64 c.version, .bool c.skip, .slice c.ma c.ml c.mc, .slice c.ia c.il c.ic, .slice c.ka c.kl c.kc, .int .u8 c.state, .int .i64 c.ffrom, .int .i64 c.target, .int .i64 c.step, .bool c.paused, .int .i64 c.since, .int .i64 c.rfails], .int .i64 th] W fun e W' => e = .returned (.bool r) ∧ G2s b c ms is kl w W6.heap.size W') := fun W h => Lib.hid (g_over th r P4.out h)
    have tR : ∀ W, Hid (G2 b c ms is kl w W6.heap.size W) → Hid (Calls Try.prog 13 #[.agg #[.int .i64 c.epoch, .int .i64 c.seq, .bool c.set, .int .i64 c.desired, .int .i64 c.minh, .int .i64 c.surplus, .int .i64 c.pool, .int .i64 c.hookIn, .int .i64 c.hookOut, .int .i64 c.warmup, .int .i64 c.drain, .int .i64 c.reap, .int .i64 c.timeout, .int .i64 c.fails, .int .i64 c.delay, .int .i64 c.version, .bool c.skip, .slice c.ma c.ml c.mc, .slice c.ia c.il c.ic, .slice c.ka c.kl c.kc, .int .u8 c.state, .int .i64 c.ffrom, .int .i64 c.target, .int .i64 c.step, .bool c.paused, .int .i64 c.since, .int .i64 c.rfails]] W fun e W' => e = .returned (.bool false) ∧ G2s b c ms is kl w W6.heap.size W') := fun W h => Lib.hid (g_reached HSM.out false P2.out h)
    have tP : ∀ W, Hid (G2 b c ms is kl w W6.heap.size W) → Hid (Calls Try.prog 9 #[.agg #[.int .i64 c.epoch, .int .i64 c.seq, .bool c.set, .int .i64 c.desired, .int .i64 c.minh, .int .i64 c.surplus, .int .i64 c.pool, .int .i64 c.hookIn, .int .i64 c.hookOut, .int .i64 c.warmup, .int .i64 c.drain, .int .i64 c.reap, .int .i64 c.timeout, .int .i64 c.fails, .int .i64 c.delay, .int .i64 c.version, .bool c.skip, .slice c.ma c.ml c.mc, .slice c.ia c.il c.ic, .slice c.ka c.kl c.kc, .int .u8 c.state, .int .i64 c.ffrom, .int .i64 c.target, .int .i64 c.step, .bool c.paused, .int .i64 c.since, .int .i64 c.rfails]] W fun e W' => e = .returned (.int .i64 q) ∧ G2s b c ms is kl w W6.heap.size W') := fun W h => Lib.hid (g_prog HSM.out q P3.out h)
    have tB : ∀ W, Hid (G2 b c ms is kl w W6.heap.size W) → Hid (Calls Try.prog 9 #[.agg #[.int .i64 b.epoch, .int .i64 b.seq, .bool b.set, .int .i64 b.desired, .int .i64 b.minh, .int .i64 b.surplus, .int .i64 b.pool, .int .i64 b.hookIn, .int .i64 b.hookOut, .int .i64 b.warmup, .int .i64 b.drain, .int .i64 b.reap, .int .i64 b.timeout, .int .i64 b.fails, .int .i64 b.delay, .int .i64 b.version, .bool b.skip, .slice b.ma b.ml b.mc, .slice b.ia b.il b.ic, .slice b.ka b.kl b.kc, .int .u8 b.state, .int .i64 b.ffrom, .int .i64 b.target, .int .i64 b.step, .bool b.paused, .int .i64 b.since, .int .i64 b.rfails]] W fun e W' => e = .returned (.int .i64 q) ∧ G2s b c ms is kl w W6.heap.size W') := fun W h => Lib.hid (g_progB HSM.out q Q.out h)
    have TT := Lib.hid (And.intro tO (And.intro tR (And.intro tP tB)))
    clear tO tR tP tB
    cases r with
    | true =>
      go_wp2_with fail
      go_region_held3 (fun w' => Loads w' (.pointer (some ⟨W6.heap.size, 0, none⟩)) ∧ rowOf w' (.pointer (some ⟨W6.heap.size, 0, none⟩)) = #[.int .i64 c.epoch, .int .i64 c.seq, .bool c.set, .int .i64 c.desired, .int .i64 c.minh, .int .i64 c.surplus, .int .i64 c.pool, .int .i64 c.hookIn, .int .i64 c.hookOut, .int .i64 c.warmup, .int .i64 c.drain, .int .i64 c.reap, .int .i64 c.timeout, .int .i64 c.fails, .int .i64 c.delay, .int .i64 c.version, .bool c.skip, .slice c.ma c.ml c.mc, .slice c.ia c.il c.ic, .slice c.ka c.kl c.kc, .int .u8 c.state, .int .i64 c.ffrom, .int .i64 c.target, .int .i64 c.step, .bool c.paused, .int .i64 c.since, .int .i64 c.rfails] ∧ Loads w' (.pointer (some ⟨w.heap.size, 0, none⟩)) ∧ rowOf w' (.pointer (some ⟨w.heap.size, 0, none⟩)) = #[.int .i64 b.epoch, .int .i64 b.seq, .bool b.set, .int .i64 b.desired, .int .i64 b.minh, .int .i64 b.surplus, .int .i64 b.pool, .int .i64 b.hookIn, .int .i64 b.hookOut, .int .i64 b.warmup, .int .i64 b.drain, .int .i64 b.reap, .int .i64 b.timeout, .int .i64 b.fails, .int .i64 b.delay, .int .i64 b.version, .bool b.skip, .slice b.ma b.ml b.mc, .slice b.ia b.il b.ic, .slice b.ka b.kl b.kc, .int .u8 b.state, .int .i64 b.ffrom, .int .i64 b.target, .int .i64 b.step, .bool b.paused, .int .i64 b.since, .int .i64 b.rfails] ∧ w'.cell? ⟨w.heap.size, 14, none⟩ = some (.int .i64 b.delay)) (first | exact ⟨i1, i2, i3, i4, i5⟩) (first | (go_at_call 14; refine (TT.out.1 _ (by first | exact hG | exact G2.drewN hG _)).out.mono ?_; rintro e w' ⟨rfl, hG, i1, i2, i3, i4, i5⟩) | (go_at_call 13; refine (TT.out.2.1 _ (by first | exact hG | exact G2.drewN hG _)).out.mono ?_; rintro e w' ⟨rfl, hG, i1, i2, i3, i4, i5⟩) | (go_at_call_of 9 (Value.int .i64 c.epoch); refine (TT.out.2.2.1 _ (by first | exact hG | exact G2.drewN hG _)).out.mono ?_; rintro e w' ⟨rfl, hG, i1, i2, i3, i4, i5⟩) | (go_at_call_of 9 (Value.int .i64 b.epoch); refine (TT.out.2.2.2 _ (by first | exact hG | exact G2.drewN hG _)).out.mono ?_; rintro e w' ⟨rfl, hG, i1, i2, i3, i4, i5⟩) | (go_at_call 8; refine (g_wakes (b := b) (c := c) (ms := ms) (is := is) (kl := kl) (w := w) (O := W6.heap.size) (by first | exact hG | exact G2.drewN hG _)).mono ?_; rintro e w' ⟨rfl, hG, i1, i2, i3, i4, i5⟩))
      go_wp2
      go_ret
      exact ⟨rfl, hG.out.1.b⟩
    | false =>
      go_wp2_with fail
      go_region_held3 (fun w' => Loads w' (.pointer (some ⟨W6.heap.size, 0, none⟩)) ∧ rowOf w' (.pointer (some ⟨W6.heap.size, 0, none⟩)) = #[.int .i64 c.epoch, .int .i64 c.seq, .bool c.set, .int .i64 c.desired, .int .i64 c.minh, .int .i64 c.surplus, .int .i64 c.pool, .int .i64 c.hookIn, .int .i64 c.hookOut, .int .i64 c.warmup, .int .i64 c.drain, .int .i64 c.reap, .int .i64 c.timeout, .int .i64 c.fails, .int .i64 c.delay, .int .i64 c.version, .bool c.skip, .slice c.ma c.ml c.mc, .slice c.ia c.il c.ic, .slice c.ka c.kl c.kc, .int .u8 c.state, .int .i64 c.ffrom, .int .i64 c.target, .int .i64 c.step, .bool c.paused, .int .i64 c.since, .int .i64 c.rfails] ∧ Loads w' (.pointer (some ⟨w.heap.size, 0, none⟩)) ∧ rowOf w' (.pointer (some ⟨w.heap.size, 0, none⟩)) = #[.int .i64 b.epoch, .int .i64 b.seq, .bool b.set, .int .i64 b.desired, .int .i64 b.minh, .int .i64 b.surplus, .int .i64 b.pool, .int .i64 b.hookIn, .int .i64 b.hookOut, .int .i64 b.warmup, .int .i64 b.drain, .int .i64 b.reap, .int .i64 b.timeout, .int .i64 b.fails, .int .i64 b.delay, .int .i64 b.version, .bool b.skip, .slice b.ma b.ml b.mc, .slice b.ia b.il b.ic, .slice b.ka b.kl b.kc, .int .u8 b.state, .int .i64 b.ffrom, .int .i64 b.target, .int .i64 b.step, .bool b.paused, .int .i64 b.since, .int .i64 b.rfails] ∧ w'.cell? ⟨w.heap.size, 14, none⟩ = some (.int .i64 b.delay)) (first | exact ⟨i1, i2, i3, i4, i5⟩) (first | (go_at_call 14; refine (TT.out.1 _ (by first | exact hG | exact G2.drewN hG _)).out.mono ?_; rintro e w' ⟨rfl, hG, i1, i2, i3, i4, i5⟩) | (go_at_call 13; refine (TT.out.2.1 _ (by first | exact hG | exact G2.drewN hG _)).out.mono ?_; rintro e w' ⟨rfl, hG, i1, i2, i3, i4, i5⟩) | (go_at_call_of 9 (Value.int .i64 c.epoch); refine (TT.out.2.2.1 _ (by first | exact hG | exact G2.drewN hG _)).out.mono ?_; rintro e w' ⟨rfl, hG, i1, i2, i3, i4, i5⟩) | (go_at_call_of 9 (Value.int .i64 b.epoch); refine (TT.out.2.2.2 _ (by first | exact hG | exact G2.drewN hG _)).out.mono ?_; rintro e w' ⟨rfl, hG, i1, i2, i3, i4, i5⟩) | (go_at_call 8; refine (g_wakes (b := b) (c := c) (ms := ms) (is := is) (kl := kl) (w := w) (O := W6.heap.size) (by first | exact hG | exact G2.drewN hG _)).mono ?_; rintro e w' ⟨rfl, hG, i1, i2, i3, i4, i5⟩))
      go_wp2
      go_ret
      exact ⟨rfl, hG.out.1.b⟩
end Go.Proofs.Ytpneohekghpkbaa
