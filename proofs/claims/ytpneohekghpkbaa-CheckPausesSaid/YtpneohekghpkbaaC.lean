/- The contract of Serving. -/
import Derived.Test.YtpneohekghpkbaaL
namespace Go.Proofs.Ytpneohekghpkbaa
open Go.RowKit Go.Shelf
attribute [local go_sem] Oper.semAt_some

/-- How many of these are of the version. -/
def countV (ys : List Int) (v : Int) : Int := ((ys.filter (· == v)).length : Int)
theorem countV_le (ys : List Int) (v : Int) : 0 ≤ countV ys v ∧ countV ys v ≤ ys.length := by
  unfold countV
  have := List.length_filter_le (· == v) ys
  omega
theorem countV_hit (ys : List Int) (v : Int) : countV (ys ++ [v]) v = countV ys v + 1 := by simp [countV, List.filter_append]
theorem countV_miss (ys : List Int) (x v : Int) (h : x ≠ v) : countV (ys ++ [x]) v = countV ys v := by
  have : (x == v) = false := by simp [h]
  simp [countV, List.filter_append, this]

set_option maxRecDepth 100000 in
set_option maxHeartbeats 4000000 in
theorem serving_in (F : Fence) (n : Nat) (h10 : F.fn 10) (h21 : F.fn 21) (h22 : F.fn 22) (h32 : F.fn 32) (hro : F.round = none) (hn : 4 ≤ n) (b : Br) (ver : Int) (kl : List Kp) (hsmall : kl.length ≤ 100) (w : World) (hk : KRow w w.heap.size (.slice b.ka b.kl b.kc) kl) :
    CallsIn F n Try.prog 10 #[.agg #[.int .i64 b.epoch, .int .i64 b.seq, .bool b.set, .int .i64 b.desired, .int .i64 b.minh, .int .i64 b.surplus, .int .i64 b.pool, .int .i64 b.hookIn, .int .i64 b.hookOut, .int .i64 b.warmup, .int .i64 b.drain, .int .i64 b.reap, .int .i64 b.timeout, .int .i64 b.fails, .int .i64 b.delay, .int .i64 b.version, .bool b.skip, .slice b.ma b.ml b.mc, .slice b.ia b.il b.ic, .slice b.ka b.kl b.kc, .int .u8 b.state, .int .i64 b.ffrom, .int .i64 b.target, .int .i64 b.step, .bool b.paused, .int .i64 b.since, .int .i64 b.rfails], .int .i64 ver] w fun e W' => e = .returned (.int .i64 (countV (servs kl) ver)) ∧ Below w.heap.size w W' := by
  have h1 : 1 ≤ n := by omega
  refine callsIn_of_wp_marks Try.func10 rfl h10 ?_ hro
  simp only [Try.ntmps10, List.size_toArray, List.length_cons, List.length_nil, Nat.reduceAdd, Nat.reduceSub, Array.replicate_succ, Array.replicate_zero, List.push_toArray, List.append_toArray, List.nil_append, List.cons_append]
  obtain ⟨W0, hW0⟩ : ∃ W0, (((w.alloc (.cells #[.int .i64 b.epoch, .int .i64 b.seq, .bool b.set, .int .i64 b.desired, .int .i64 b.minh, .int .i64 b.surplus, .int .i64 b.pool, .int .i64 b.hookIn, .int .i64 b.hookOut, .int .i64 b.warmup, .int .i64 b.drain, .int .i64 b.reap, .int .i64 b.timeout, .int .i64 b.fails, .int .i64 b.delay, .int .i64 b.version, .bool b.skip, .slice b.ma b.ml b.mc, .slice b.ia b.il b.ic, .slice b.ka b.kl b.kc, .int .u8 b.state, .int .i64 b.ffrom, .int .i64 b.target, .int .i64 b.step, .bool b.paused, .int .i64 b.since, .int .i64 b.rfails] 30)).alloc (.cells #[.int .i64 ver] 3)).alloc (.cells #[.int .i64 0] 3)).alloc (.cells #[.func (.func 21) #[] #[.pointer (some ⟨w.heap.size + 1, 0, none⟩), .pointer (some ⟨w.heap.size + 1 + 1, 0, none⟩)]] 51) = W0 := ⟨_, rfl⟩
  have hs0 : W0.heap.size = w.heap.size + 1 + 1 + 1 + 1 := by rw [← hW0]; simp
  have hB0 : Below w.heap.size w W0 := by rw [← hW0]; exact ((((Below.refl _ w).alloc (Nat.le_refl _) _).alloc (by simp) _).alloc (by simp; omega) _).alloc (by simp; omega) _
  have c1 : W0.cell? ⟨w.heap.size + 1, 0, none⟩ = some (.int .i64 ver) := by rw [← hW0]; simp [go_sem]
  have c2 : W0.cell? ⟨w.heap.size + 1 + 1, 0, none⟩ = some (.int .i64 0) := by rw [← hW0]; simp [go_sem]
  have f2 : W0.frozen? ⟨w.heap.size + 1 + 1, 0, none⟩ = false := by rw [← hW0]; simp [go_sem]
  have c3 : W0.cell? ⟨w.heap.size + 1 + 1 + 1, 0, none⟩ = some (.func (.func 21) #[] #[.pointer (some ⟨w.heap.size + 1, 0, none⟩), .pointer (some ⟨w.heap.size + 1 + 1, 0, none⟩)]) := by rw [← hW0]; simp [go_sem]
  have hbx : BAt W0 w.heap.size b := by
    rw [← hW0]
    exact ((((BAt.new w b).below (Below.refl (w.heap.size + 1) _ |>.alloc (by simp) _) (by omega)).below (Below.refl (w.heap.size + 1) _ |>.alloc (by simp) _) (by omega)).below (Below.refl (w.heap.size + 1) _ |>.alloc (by simp) _) (by omega))
  have hbl := hbx
  rw [← hW0] at hbl
  have HW := Lib.hid hW0
  clear hW0
  gi_wp2_with (first | (refine load30_in _ rfl rfl hbl rfl ?_) | (gi_at_call 22; refine (serving22_in F (n - 1) h22 hro b _).mono ?_; rintro e w' ⟨rfl, rfl⟩))
  rw [HW.out]
  clear hbl
  have hB1 : Below w.heap.size w (W0.alloc (.cells #[.int .i64 b.epoch, .int .i64 b.seq, .bool b.set, .int .i64 b.desired, .int .i64 b.minh, .int .i64 b.surplus, .int .i64 b.pool, .int .i64 b.hookIn, .int .i64 b.hookOut, .int .i64 b.warmup, .int .i64 b.drain, .int .i64 b.reap, .int .i64 b.timeout, .int .i64 b.fails, .int .i64 b.delay, .int .i64 b.version, .bool b.skip, .slice b.ma b.ml b.mc, .slice b.ia b.il b.ic, .slice b.ka b.kl b.kc, .int .u8 b.state, .int .i64 b.ffrom, .int .i64 b.target, .int .i64 b.step, .bool b.paused, .int .i64 b.since, .int .i64 b.rfails] 30)) := hB0.alloc (by omega) _
  have hbi : BAt (W0.alloc (.cells #[.int .i64 b.epoch, .int .i64 b.seq, .bool b.set, .int .i64 b.desired, .int .i64 b.minh, .int .i64 b.surplus, .int .i64 b.pool, .int .i64 b.hookIn, .int .i64 b.hookOut, .int .i64 b.warmup, .int .i64 b.drain, .int .i64 b.reap, .int .i64 b.timeout, .int .i64 b.fails, .int .i64 b.delay, .int .i64 b.version, .bool b.skip, .slice b.ma b.ml b.mc, .slice b.ia b.il b.ic, .slice b.ka b.kl b.kc, .int .u8 b.state, .int .i64 b.ffrom, .int .i64 b.target, .int .i64 b.step, .bool b.paused, .int .i64 b.since, .int .i64 b.rfails] 30)) (w.heap.size + 1 + 1 + 1 + 1) b := by rw [← hs0]; exact BAt.new W0 b
  refine wpIn_rangeFunc_ownF hro h1 (gf := 32) (lb := #[.pointer (some ⟨w.heap.size + 1 + 1 + 1 + 1, 0, none⟩)]) rfl h32 (enters_of Try.func32 (by kernel_rfl) rfl)
    (serving_stops F (n - 1) h32 hro (by omega) (w.heap.size + 1 + 1 + 1 + 1) w.heap.size _ kl hsmall _ (by simp; omega) (by simp; omega) hbi.f19 (hk.below hB1 (Nat.le_refl _))) belowK_t (belowK_b (by simp; omega)) (Below.refl _ _) (fun _ => rfl)
    (fun pre W => (W.cell? ⟨w.heap.size + 1, 0, none⟩ = some (.int .i64 ver) ∧ W.cell? ⟨w.heap.size + 1 + 1, 0, none⟩ = some (.int .i64 (countV pre ver)) ∧ W.frozen? ⟨w.heap.size + 1 + 1, 0, none⟩ = false ∧
      W.cell? ⟨w.heap.size + 1 + 1 + 1, 0, none⟩ = some (.func (.func 21) #[] #[.pointer (some ⟨w.heap.size + 1, 0, none⟩), .pointer (some ⟨w.heap.size + 1 + 1, 0, none⟩)])) ∧ Below w.heap.size w W)
    (fun _ _ _ => False)
    (OwnFrom.and (Own.from (fun s A B row hs hg hr => ⟨cell_kept hs.1 hg hr, cell_kept hs.2.1 hg hr, (frozen_kept hs.2.1 hg hr).trans hs.2.2.1, cell_kept hs.2.2.2 hg hr⟩) _) (ownFrom_below (Nat.le_refl _) (by simp; omega)))
    (fun _ _ _ _ _ hs _ _ => hs)
    ⟨⟨cell_alloc_l _ c1, cell_alloc_l _ c2, frozen_alloc_l _ c2 f2, cell_alloc_l _ c3⟩, hB1⟩
    (fun x => { tmps := #[.agg #[.int .i64 b.epoch, .int .i64 b.seq, .bool b.set, .int .i64 b.desired, .int .i64 b.minh, .int .i64 b.surplus, .int .i64 b.pool, .int .i64 b.hookIn, .int .i64 b.hookOut, .int .i64 b.warmup, .int .i64 b.drain, .int .i64 b.reap, .int .i64 b.timeout, .int .i64 b.fails, .int .i64 b.delay, .int .i64 b.version, .bool b.skip, .slice b.ma b.ml b.mc, .slice b.ia b.il b.ic, .slice b.ka b.kl b.kc, .int .u8 b.state, .int .i64 b.ffrom, .int .i64 b.target, .int .i64 b.step, .bool b.paused, .int .i64 b.since, .int .i64 b.rfails], .int .i64 ver, .pointer (some ⟨w.heap.size, 0, none⟩), .pointer (some ⟨w.heap.size + 1, 0, none⟩), .pointer (some ⟨w.heap.size + 1 + 1, 0, none⟩), .pointer (some ⟨w.heap.size + 1 + 1 + 1, 0, none⟩), .int .i64 x, .func (.func 21) #[] #[.pointer (some ⟨w.heap.size + 1, 0, none⟩), .pointer (some ⟨w.heap.size + 1 + 1, 0, none⟩)], .agg #[.int .i64 b.epoch, .int .i64 b.seq, .bool b.set, .int .i64 b.desired, .int .i64 b.minh, .int .i64 b.surplus, .int .i64 b.pool, .int .i64 b.hookIn, .int .i64 b.hookOut, .int .i64 b.warmup, .int .i64 b.drain, .int .i64 b.reap, .int .i64 b.timeout, .int .i64 b.fails, .int .i64 b.delay, .int .i64 b.version, .bool b.skip, .slice b.ma b.ml b.mc, .slice b.ia b.il b.ic, .slice b.ka b.kl b.kc, .int .u8 b.state, .int .i64 b.ffrom, .int .i64 b.target, .int .i64 b.step, .bool b.paused, .int .i64 b.since, .int .i64 b.rfails], .func (.func 32) #[] #[.pointer (some ⟨w.heap.size + 1 + 1 + 1 + 1, 0, none⟩)], .int .i64 x, undef, undef, undef, undef], defers := [] }) ?assign ?body ?done ?stop
  case assign =>
    intro l x W K hK
    gi_wp2
    exact hK
  case body =>
    rintro l pre x W ⟨⟨k1, k2, k3, k4⟩, hB⟩ hlen
    have hle := countV_le pre ver
    have hm1 : countV pre ver ≤ 1000 := by omega
    have HC := CallsIn.inRound l (counts_in F (n - 1 - 1 - 1) h21 hro x ver (countV pre ver) (w.heap.size + 1) (w.heap.size + 1 + 1) hle.1 hm1 W k1 k2 k3)
    have hn1 : 1 ≤ n - 1 - 1 := by omega
    gi_wp2_with fail
    refine HC.mono ?_
    rintro e W' ⟨⟨v, rfl⟩, ⟨hx, rfl⟩ | ⟨hne, rfl⟩⟩
    · subst hx
      gi_wp2
      exact ⟨KeepsOthers.setCell _ _ _, (Below.refl w.heap.size W).setCell (p := ⟨w.heap.size + 1 + 1, 0, none⟩) (by simp; omega) _,
        ⟨by rw [World.cell?_setCell_other _ _ _ _ (by simp)]; exact k1, by rw [countV_hit]; exact World.cell?_setCell_same' _ _ _ (by rw [k2]; rfl), by rw [World.frozen?_setCell]; exact k3, by rw [World.cell?_setCell_other _ _ _ _ (by simp)]; exact k4⟩,
        hB.setCell (p := ⟨w.heap.size + 1 + 1, 0, none⟩) (by simp; omega) _⟩
    · gi_wp2
      exact ⟨KeepsOthers.refl _, Below.refl _ _, ⟨k1, by rw [countV_miss _ _ _ hne]; exact k2, k3, k4⟩, hB⟩
  case done =>
    rintro D ys W hD rfl ⟨⟨k1, k2, k3, k4⟩, hB⟩ hK
    gi_wp2
    have hK' := (KeepsOthers.setCell W ⟨w.heap.size + 1 + 1, 0, none⟩ (.int .i64 (countV (servs kl) ver))).same D _ hK rfl
    refine ⟨by simp, .inl ⟨_, _, rfl, run_takeDeferred hK', ?_⟩⟩
    have hc5 := cell_kept (World.cell?_setCell_same' W ⟨w.heap.size + 1 + 1, 0, none⟩ (.int .i64 (countV (servs kl) ver)) (by rw [k2]; rfl)) (grownBy_putObj' _ D (.deferred none)) (fun r e => by cases e; exact ⟨_, hK', rfl⟩)
    refine ⟨.int .i64 (countV (servs kl) ver), ?_, rfl, (hB.setCell (p := ⟨w.heap.size + 1 + 1, 0, none⟩) (by simp; omega) _).trans (belowK_b (w := w) (Nat.le_refl _) _ D _ _ (by simp at hD; omega) hK' rfl rfl)⟩
    simp [results, Try.f10, go_sem, hc5]
  case stop =>
    rintro D c pre W _ _ h _
    exact h.elim
end Go.Proofs.Ytpneohekghpkbaa
