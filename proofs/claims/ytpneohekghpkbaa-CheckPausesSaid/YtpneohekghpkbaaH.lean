/- The contract of wakes. -/
import Derived.Test.YtpneohekghpkbaaG
namespace Go.Proofs.Ytpneohekghpkbaa
open Go.RowKit Go.Shelf
attribute [local go_sem ↓] load_rule store_rule roll_rule

theorem nblk_setCell (w : World) (a : Addr) (v : Value) : (w.setCell a v).heap.size = w.heap.size := by simp [World.setCell]

/-- What stands in the world of the last region. -/
structure Wk (n O : Nat) (W : World) : Prop where
  xB : BAt W (n + 1) (bC n)
  xO : BAt W O (bO n)
  m : IRow W W.heap.size (some ⟨n, 0, none⟩) 2 [25, 50]
  k : KRow W W.heap.size (.slice (some ⟨n + 1 + 1, 0, none⟩) 3 3) wkl
theorem Wk.next {n O : Nat} {W W' : World} (h : Wk n O W) (hb : Below W.heap.size W W') : Wk n O W' :=
  ⟨h.xB.below hb h.xB.lt, h.xO.below hb h.xO.lt, (h.m.below hb (Nat.le_refl _)).mono hb.size, (h.k.below hb (Nat.le_refl _)).mono hb.size⟩
def WS (w : World) (O : Nat) (W : World) : Prop :=
  Loads W (.pointer (some ⟨w.heap.size + 1, 0, none⟩)) ∧
  rowOf W (.pointer (some ⟨w.heap.size + 1, 0, none⟩)) = #[.int .i64 0, .int .i64 0, .bool true, .int .i64 4, .int .i64 0, .int .i64 0, .int .i64 0, .int .i64 0, .int .i64 0, .int .i64 0, .int .i64 0, .int .i64 0, .int .i64 0, .int .i64 0, .int .i64 3, .int .i64 2, .bool false, .slice (some ⟨w.heap.size, 0, none⟩) 2 2, .slice none 0 0, .slice (some ⟨w.heap.size + 1 + 1, 0, none⟩) 3 3, .int .u8 1, .int .i64 2, .int .i64 3, .int .i64 0, .bool false, .int .i64 0, .int .i64 0] ∧
  Loads W (.pointer (some ⟨O, 0, none⟩)) ∧
  rowOf W (.pointer (some ⟨O, 0, none⟩)) = #[.int .i64 0, .int .i64 0, .bool true, .int .i64 4, .int .i64 0, .int .i64 0, .int .i64 0, .int .i64 0, .int .i64 0, .int .i64 0, .int .i64 0, .int .i64 0, .int .i64 0, .int .i64 0, .int .i64 3, .int .i64 2, .bool false, .slice (some ⟨w.heap.size, 0, none⟩) 2 2, .slice none 0 0, .slice (some ⟨w.heap.size + 1 + 1, 0, none⟩) 3 3, .int .u8 1, .int .i64 2, .int .i64 3, .int .i64 2, .bool true, .int .i64 10, .int .i64 0] ∧
  Hid (Wk w.heap.size O W ∧ Below w.heap.size w W)
theorem WS.of {w : World} {O : Nat} {W : World} (h : Wk w.heap.size O W) (hb : Below w.heap.size w W) : WS w O W :=
  ⟨h.xB.loads, h.xB.row, h.xO.loads, h.xO.row, Lib.hid ⟨h, hb⟩⟩
theorem WS.next {w : World} {O : Nat} {W W' : World} (h : WS w O W) (hb : Below W.heap.size W W') : WS w O W' :=
  have hh := h.2.2.2.2.out
  WS.of (hh.1.next hb) (hh.2.trans (hb.mono hh.2.size))
theorem over_c (b : Br) (now : Int) (r : Bool) (hr : overB b now = r) (w : World) : Calls Try.prog 14 #[.agg #[.int .i64 b.epoch, .int .i64 b.seq, .bool b.set, .int .i64 b.desired, .int .i64 b.minh, .int .i64 b.surplus, .int .i64 b.pool, .int .i64 b.hookIn, .int .i64 b.hookOut, .int .i64 b.warmup, .int .i64 b.drain, .int .i64 b.reap, .int .i64 b.timeout, .int .i64 b.fails, .int .i64 b.delay, .int .i64 b.version, .bool b.skip, .slice b.ma b.ml b.mc, .slice b.ia b.il b.ic, .slice b.ka b.kl b.kc, .int .u8 b.state, .int .i64 b.ffrom, .int .i64 b.target, .int .i64 b.step, .bool b.paused, .int .i64 b.since, .int .i64 b.rfails], .int .i64 now] w fun e w' => e = .returned (.bool r) ∧ Below w.heap.size w w' := by
  subst hr; exact over_any b now w
theorem passed_c (b : Br) (ms : List Int) (r : Bool) (hr : passedB b ms = r) (w : World) (hm : IRow w w.heap.size b.ma b.ml ms) : Calls Try.prog 15 #[.agg #[.int .i64 b.epoch, .int .i64 b.seq, .bool b.set, .int .i64 b.desired, .int .i64 b.minh, .int .i64 b.surplus, .int .i64 b.pool, .int .i64 b.hookIn, .int .i64 b.hookOut, .int .i64 b.warmup, .int .i64 b.drain, .int .i64 b.reap, .int .i64 b.timeout, .int .i64 b.fails, .int .i64 b.delay, .int .i64 b.version, .bool b.skip, .slice b.ma b.ml b.mc, .slice b.ia b.il b.ic, .slice b.ka b.kl b.kc, .int .u8 b.state, .int .i64 b.ffrom, .int .i64 b.target, .int .i64 b.step, .bool b.paused, .int .i64 b.since, .int .i64 b.rfails]] w fun e w' => e = .returned (.bool r) ∧ Below w.heap.size w w' := by
  subst hr; exact passed_any b ms w hm
theorem progress_c (b : Br) (kl : List Kp) (hsmall : kl.length ≤ 100) (r : Int) (hr : progB b kl = r) (w : World) (hk : KRow w w.heap.size (.slice b.ka b.kl b.kc) kl) :
    Calls Try.prog 9 #[.agg #[.int .i64 b.epoch, .int .i64 b.seq, .bool b.set, .int .i64 b.desired, .int .i64 b.minh, .int .i64 b.surplus, .int .i64 b.pool, .int .i64 b.hookIn, .int .i64 b.hookOut, .int .i64 b.warmup, .int .i64 b.drain, .int .i64 b.reap, .int .i64 b.timeout, .int .i64 b.fails, .int .i64 b.delay, .int .i64 b.version, .bool b.skip, .slice b.ma b.ml b.mc, .slice b.ia b.il b.ic, .slice b.ka b.kl b.kc, .int .u8 b.state, .int .i64 b.ffrom, .int .i64 b.target, .int .i64 b.step, .bool b.paused, .int .i64 b.since, .int .i64 b.rfails]] w fun e w' => e = .returned (.int .i64 r) ∧ Below w.heap.size w w' := by
  subst hr; exact progress_any b kl hsmall w hk
theorem serving_c (b : Br) (ver : Int) (kl : List Kp) (hsmall : kl.length ≤ 100) (r : Int) (hr : countV (servs kl) ver = r) (w : World) (hk : KRow w w.heap.size (.slice b.ka b.kl b.kc) kl) :
    Calls Try.prog 10 #[.agg #[.int .i64 b.epoch, .int .i64 b.seq, .bool b.set, .int .i64 b.desired, .int .i64 b.minh, .int .i64 b.surplus, .int .i64 b.pool, .int .i64 b.hookIn, .int .i64 b.hookOut, .int .i64 b.warmup, .int .i64 b.drain, .int .i64 b.reap, .int .i64 b.timeout, .int .i64 b.fails, .int .i64 b.delay, .int .i64 b.version, .bool b.skip, .slice b.ma b.ml b.mc, .slice b.ia b.il b.ic, .slice b.ka b.kl b.kc, .int .u8 b.state, .int .i64 b.ffrom, .int .i64 b.target, .int .i64 b.step, .bool b.paused, .int .i64 b.since, .int .i64 b.rfails], .int .i64 ver] w fun e w' => e = .returned (.int .i64 r) ∧ Below w.heap.size w w' := by
  subst hr; exact serving_any b ver kl hsmall w hk

theorem cC (n : Nat) : servB (bC n) wkl = 1 ∧ progB (bC n) wkl = 25 := by
  have h1 : servB (bC n) wkl = 1 := rfl
  refine ⟨h1, ?_⟩
  unfold progB
  rw [h1, show (bC n).desired = 4 from rfl]
  decide
theorem rC (n : Nat) : reachedB (bC n) [25, 50] wkl = true := by
  unfold reachedB
  rw [(cC n).2]
  rfl
theorem oC (n : Nat) : overB (bC n) 99 = false ∧ overB (bO n) 13 = true ∧ overB (bO n) 12 = false := by
  have h1 : activeB (bO n) true = true := rfl
  have h2 : wrap64 ((bO n).since + (bO n).delay) = 13 := show wrap64 (10 + 3) = 13 by first | omega | (unfold wrap64; omega) | simp [wrap64]
  exact ⟨rfl, by unfold overB; rw [h1, h2]; decide, by unfold overB; rw [h1, h2]; decide⟩
theorem pC (n : Nat) : passedB (bO n) [25, 50] = true ∧ passedB (bC n) [25, 50] = false := ⟨rfl, rfl⟩

set_option maxRecDepth 100000 in
set_option maxHeartbeats 2000000 in
theorem wakes_any (w : World) : Calls Try.prog 8 #[] w fun e w' => e = .returned (.bool true) ∧ Below w.heap.size w w' := by
  obtain ⟨W2, s1, s2, x2, hb2, hn2⟩ := new_store (w.alloc (.cells #[.int .i64 25, .int .i64 50] 3)) { b0 with set := true, desired := 4, delay := 3, version := 2, ma := some ⟨w.heap.size, 0, none⟩, ml := 2, mc := 2 } (w.heap.size + 1) (by simp)
  have hw1 : (w.alloc (.cells #[.int .i64 25, .int .i64 50] 3)).heap.size = w.heap.size + 1 := by simp
  rw [hw1] at hb2 hn2
  have b2 : Below w.heap.size w W2 := ((Below.refl w.heap.size w).alloc (Nat.le_refl _) _).trans (hb2.mono (by omega))
  have m2 := (irow_new w).below hb2 (by omega)
  obtain ⟨W3, hW3⟩ : ∃ W3, W3 = (W2.setCell ⟨w.heap.size + 1, 19, none⟩ (.slice (some ⟨w.heap.size + 1 + 1, 0, none⟩) 3 3)).alloc (.cells wcs 32) := ⟨_, rfl⟩
  have hn3 : W3.heap.size = w.heap.size + 3 := by rw [hW3]; simp [hn2]
  have x3 : BAt W3 (w.heap.size + 1) (bA w.heap.size) := by
    rw [hW3]
    exact (x2.setKept _ 3 3).below ((Below.refl (w.heap.size + 2) _).alloc (by simp [hn2]) _) (by omega)
  have b3 : Below (w.heap.size + 1) W2 W3 := by
    rw [hW3]
    exact ((Below.refl _ _).setCell (by simp) _).alloc (by simp [hn2]) _
  have b03 : Below w.heap.size w W3 := b2.trans (b3.mono (by omega))
  have m3 := m2.below b3 (by omega)
  have k3 : KRow W3 (w.heap.size + 3) (.slice (some ⟨w.heap.size + 1 + 1, 0, none⟩) 3 3) wkl := by
    rw [hW3]
    exact krow_new _ _ (by simp [hn2])
  have l3 := x3.loads
  have r3 := x3.row
  simp only [bA, b0] at r3
  unfold zB at s1 s2
  simp only [b0] at s1 s2
  have c19 := x2.f19
  simp only [b0] at c19
  have fz := x2.frozen 19
  have hW3' := hW3.symm
  unfold wcs at hW3'
  clear x2 hb2 hW3 b2 b3 m2
  have H13 := Lib.hid (reached_c (bA w.heap.size) [25, 50] wkl (by decide) false rfl W3 (m3.mono (by omega)) (by rw [hn3]; exact k3))
  have X3 := Lib.hid x3
  clear x3
  go_enter Try.func8, Try.ntmps8
  go_wp2_with fail
  refine H13.out.mono ?_
  rintro e W4 ⟨rfl, h4⟩
  have x4 := X3.out.below h4 (by omega)
  have h4' : Below (w.heap.size + 1) W3 W4 := h4.mono (by omega)
  obtain ⟨W5, p1, p2, x5, b5, n5, o5⟩ := x4.rolls 1 2 3 0 false 0 0
  have hs4 := h4.size
  have m5 : IRow W5 W5.heap.size (some ⟨w.heap.size, 0, none⟩) 2 [25, 50] := ((m3.below h4' (by omega)).below b5 (by omega)).mono (by omega)
  have k5 : KRow W5 W5.heap.size (.slice (some ⟨w.heap.size + 1 + 1, 0, none⟩) 3 3) wkl := (((k3.below h4 (by omega)).same fun b off h => o5 b (by injection h with h; injection h; omega)).mono (by omega))
  have l5 := x5.loads
  have r5 := x5.row
  simp only [bA, b0] at r5
  have X5 := Lib.hid x5
  clear x4 x5 H13 X3 s1 s2 l3 r3 c19 fz hW3'
  have H16 := Lib.hid (mark_c (bC w.heap.size) [25, 50] 25 true rfl rfl W5 m5)
  go_wp2_with fail
  refine H16.out.mono ?_
  rintro e W6 ⟨rfl, h6⟩
  have x6 := X5.out.below h6 X5.out.lt
  have m6 := (m5.below h6 (Nat.le_refl _)).mono h6.size
  have k6 := (k5.below h6 (Nat.le_refl _)).mono h6.size
  have l6 := x6.loads
  have r6 := x6.row
  simp only [bA, b0] at r6
  have H13 := Lib.hid (reached_c (bC w.heap.size) [25, 50] wkl (by decide) true (rC _) W6 m6 k6)
  have X6 := Lib.hid x6
  clear x6 X5 H16 l5 r5 p1 p2
  go_wp2_with fail
  refine H13.out.mono ?_
  rintro e W7 ⟨rfl, h7⟩
  have x7 := X6.out.below h7 X6.out.lt
  have m7 := (m6.below h7 (Nat.le_refl _)).mono h7.size
  have k7 := (k6.below h7 (Nat.le_refl _)).mono h7.size
  have l7 := x7.loads
  have r7 := x7.row
  simp only [bA, b0] at r7
  obtain ⟨W8, s1, s2, x8, b8, n8⟩ := new_store W7 (bC w.heap.size) W7.heap.size rfl
  have d23 := x8.f23
  have d24 := x8.f24
  have d25 := x8.f25
  have g23 := x8.frozen 23
  have g24 := x8.frozen 24
  have g25 := x8.frozen 25
  unfold zB at s1 s2
  simp only [bC, bA, b0] at d23 d24 d25 s1 s2
  obtain ⟨W9, q9⟩ : ∃ W9, ((W8.setCell ⟨W7.heap.size, 24, none⟩ (.bool true)).setCell ⟨W7.heap.size, 25, none⟩ (.int .i64 10)).setCell ⟨W7.heap.size, 23, none⟩ (.int .i64 2) = W9 := ⟨_, rfl⟩
  have x9 : BAt W9 W7.heap.size (bO w.heap.size) := by
    rw [← q9]
    exact ((x8.setPaused true).setSince 10).setStep 2
  have b9 : Below W7.heap.size W8 W9 := by
    rw [← q9]
    exact (((Below.refl _ _).setCell (p := ⟨W7.heap.size, 24, none⟩) (Nat.le_refl _) _).setCell (p := ⟨W7.heap.size, 25, none⟩) (Nat.le_refl _) _).setCell (p := ⟨W7.heap.size, 23, none⟩) (Nat.le_refl _) _
  have b79 := b8.trans b9
  have K9 : Wk w.heap.size W7.heap.size W9 := ⟨x7.below b79 x7.lt, x9, (m7.below b79 (Nat.le_refl _)).mono b79.size, (k7.below b79 (Nat.le_refl _)).mono b79.size⟩
  have hs5 := b5.size
  have hs6 := h6.size
  have hs7 := h7.size
  have b09 : Below w.heap.size w W9 := b03.trans ((h4'.mono (by omega)).trans ((b5.mono (by omega)).trans ((h6.mono (by omega)).trans ((h7.mono (by omega)).trans (b79.mono (by omega))))))
  clear x7 x8 x9 b79 b9 b8 X6 H13 l6 r6
  obtain ⟨l1, l2, l3, l4, S9⟩ := WS.of K9 b09
  clear K9 b09
  go_wp2_with fail
  refine (progress_c (bC w.heap.size) wkl (by decide) 25 (cC _).2 _ S9.out.1.k).mono ?_
  rintro e V0 ⟨rfl, hb⟩
  obtain ⟨l1, l2, l3, l4, S10⟩ := WS.next ⟨l1, l2, l3, l4, S9⟩ hb
  clear S9 hb
  go_wp2_with fail
  refine (over_c (bC w.heap.size) 99 false (oC _).1 _).mono ?_
  rintro e V1 ⟨rfl, hb⟩
  obtain ⟨l1, l2, l3, l4, S11⟩ := WS.next ⟨l1, l2, l3, l4, S10⟩ hb
  clear S10 hb
  go_wp2_with fail
  refine (over_c (bO w.heap.size) 13 true (oC _).2.1 _).mono ?_
  rintro e V2 ⟨rfl, hb⟩
  obtain ⟨l1, l2, l3, l4, S12⟩ := WS.next ⟨l1, l2, l3, l4, S11⟩ hb
  clear S11 hb
  go_wp2_with fail
  refine (over_c (bO w.heap.size) 12 false (oC _).2.2 _).mono ?_
  rintro e V3 ⟨rfl, hb⟩
  obtain ⟨l1, l2, l3, l4, S13⟩ := WS.next ⟨l1, l2, l3, l4, S12⟩ hb
  clear S12 hb
  go_wp2_with fail
  refine (passed_c (bO w.heap.size) [25, 50] true (pC _).1 _ S13.out.1.m).mono ?_
  rintro e V4 ⟨rfl, hb⟩
  obtain ⟨l1, l2, l3, l4, S14⟩ := WS.next ⟨l1, l2, l3, l4, S13⟩ hb
  clear S13 hb
  go_wp2_with fail
  refine (passed_c (bC w.heap.size) [25, 50] false (pC _).2 _ S14.out.1.m).mono ?_
  rintro e V5 ⟨rfl, hb⟩
  obtain ⟨l1, l2, l3, l4, S15⟩ := WS.next ⟨l1, l2, l3, l4, S14⟩ hb
  clear S14 hb
  go_wp2_with fail
  refine (serving_c (bC w.heap.size) 2 wkl (by decide) 1 rfl _ S15.out.1.k).mono ?_
  rintro e V6 ⟨rfl, hb⟩
  obtain ⟨l1, l2, l3, l4, S16⟩ := WS.next ⟨l1, l2, l3, l4, S15⟩ hb
  clear S15 hb
  go_wp2_with fail
  refine (progress_low b0 (by decide) _).mono ?_
  rintro e V ⟨rfl, hb⟩
  have hS := S16.out.2
  clear l1 l2 l3 l4
  go_wp2
  go_ret
  exact ⟨rfl, hS.trans (hb.mono hS.size)⟩
end Go.Proofs.Ytpneohekghpkbaa
