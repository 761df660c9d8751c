/- The iterator over the phases that may follow one, and Legal. -/
import Derived.Lib.Hide
import Derived.Test.YtmdakmlhcgegcaaDoorC
namespace Go.Proofs.YtmdakmlhcgegcaaDoor
open Go.RowKit Go.Shelf
attribute [local go_sem] Oper.semAt_some

/-- What has come when k rounds are over, of a phase below 11. -/
def came (a k : Nat) : List Int := ((List.range k).map (follow a)).filter (· != 0)
theorem came_succ (a k : Nat) : came a (k + 1) = came a k ++ (if follow a k = 0 then [] else [follow a k]) := by
  by_cases h : follow a k = 0 <;> simp [came, List.range_succ, h]
theorem came_prefix (a k j : Nat) (h : k ≤ j) : came a k <+: came a j := by
  unfold came
  refine List.IsPrefix.filter _ (List.IsPrefix.map _ ?_)
  rw [List.prefix_iff_eq_take]
  simp [List.take_range, Nat.min_eq_left h]

set_option maxRecDepth 100000 in
set_option maxHeartbeats 2000000 in
/-- The closure, at a phase below 11. -/
theorem next1_in (F : Fence) (n : Nat) (h19 : F.fn 19) (hro : F.round = none) (hn : 1 ≤ n) (l Bs n₀ : Nat) (a : Nat) (ha : a < 11) (J Jx : List Int → World → Prop)
    (hY : ∀ pre x W, J pre W → pre.length < 3 → YieldAt F (n - 1) Tryd.prog l #[.int .u8 x] W fun e W' =>
      (e = .returned (.bool true) ∧ J (pre ++ [x]) W' ∧ Below n₀ W W') ∨ (e = .returned (.bool false) ∧ Jx (pre ++ [x]) W'))
    (W : World) (hBs : W.cell? ⟨Bs, 0, none⟩ = some (.int .u8 a)) (hT : Tables W) (h0 : J [] W) :
    CallsIn F n Tryd.prog 19 #[.func (.yield l) #[] #[], .pointer (some ⟨Bs, 0, none⟩)] W fun e W' => (∃ v, e = .returned v) ∧
      ((∃ ys, ys = came a 2 ∧ J ys W') ∨ (∃ pre, pre <+: came a 2 ∧ Jx pre W')) := by
  have t0 := hT.follow a 0 ha (by decide)
  have t1 := hT.follow a 1 ha (by decide)
  rw [Nat.add_zero] at t0
  have i0 : ∀ (x0 x1 : Value) w, (Instr.index 44 (.agg #[x0, x1]) (.int .i64 0)).run Tryd.prog w = .ok x0 w := fun _ _ _ => by kernel_rfl
  have i1 : ∀ (x0 x1 : Value) w, (Instr.index 44 (.agg #[x0, x1]) (.int .i64 1)).run Tryd.prog w = .ok x1 w := fun _ _ _ => by kernel_rfl
  refine callsIn_of_wp Tryd.func19 rfl h19 ?_ hro
  simp only [Tryd.ntmps19, List.size_toArray, List.length_cons, List.length_nil, Nat.reduceAdd, Nat.reduceSub, Array.replicate_succ, Array.replicate_zero, List.push_toArray, List.append_toArray, List.nil_append, List.cons_append]
  gi_wp2
  gi_loopw [10] (fun i wr => ∃ k : Nat, k ≤ 2 ∧ i = .int .i64 k ∧ J (came a k) wr ∧ Below n₀ W wr) (fun i _ => 2 - (intOf i).toNat)
  case atStart => exact ⟨0, by omega, rfl, h0, Below.refl _ _⟩
  case round =>
    obtain ⟨k, hk, rfl, hJs, hnx⟩ := hrel
    obtain rfl | rfl | rfl : k = 0 ∨ k = 1 ∨ k = 2 := by omega
    · by_cases hz : follow a 0 = 0
      · have hz' : (follow a 0 != 0) = false := by simp [hz]
        have hc : came a (0 + 1) = came a 0 := by rw [came_succ, if_pos hz]; simp
        have HC := Lib.hid hc
        clear hc hz
        gi_wp2
        refine ⟨fun _ h => (by cases h), ?_⟩
        gi_wp2
        go_roundw
        case rel => exact ⟨1, by omega, rfl, by rw [show (1 : Nat) = 0 + 1 from rfl, HC.out]; exact hJs, hnx⟩
        case measure => simp [intOf]
      · have hz' : (follow a 0 != 0) = true := by simp [hz]
        have hc : came a (0 + 1) = came a 0 ++ [follow a 0] := by rw [came_succ, if_neg hz]
        have HC := Lib.hid hc
        clear hc hz
        obtain ⟨fn, tmps, assign, body, hy, hR⟩ := hY _ (follow a 0) wr hJs (by simp [came])
        gi_wp2
        refine hR.mono ?_
        rintro e W3 (⟨rfl, hJ3, hk3⟩ | ⟨rfl, hJx3⟩)
        · gi_wp2
          go_roundw
          case rel => exact ⟨1, by omega, rfl, by rw [show (1 : Nat) = 0 + 1 from rfl, HC.out]; exact hJ3, hnx.trans hk3⟩
          case measure => simp [intOf]
        · gi_wp2
          refine bodyPost_ret (results_none rfl _ _ _) rfl ?_
          exact ⟨⟨_, rfl⟩, .inr ⟨_, by rw [← HC.out]; exact came_prefix a 1 2 (by omega), hJx3⟩⟩
    · by_cases hz : follow a 1 = 0
      · have hz' : (follow a 1 != 0) = false := by simp [hz]
        have hc : came a (1 + 1) = came a 1 := by rw [came_succ, if_pos hz]; simp
        have HC := Lib.hid hc
        clear hc hz
        gi_wp2
        refine ⟨fun _ h => (by cases h), ?_⟩
        gi_wp2
        go_roundw
        case rel => exact ⟨2, by omega, rfl, by rw [show (2 : Nat) = 1 + 1 from rfl, HC.out]; exact hJs, hnx⟩
        case measure => simp [intOf]
      · have hz' : (follow a 1 != 0) = true := by simp [hz]
        have hc : came a (1 + 1) = came a 1 ++ [follow a 1] := by rw [came_succ, if_neg hz]
        have HC := Lib.hid hc
        clear hc hz
        obtain ⟨fn, tmps, assign, body, hy, hR⟩ := hY _ (follow a 1) wr hJs (by have := List.length_filter_le (· != 0) ((List.range 1).map (follow a)); simp [came] at this ⊢; omega)
        gi_wp2
        refine hR.mono ?_
        rintro e W3 (⟨rfl, hJ3, hk3⟩ | ⟨rfl, hJx3⟩)
        · gi_wp2
          go_roundw
          case rel => exact ⟨2, by omega, rfl, by rw [show (2 : Nat) = 1 + 1 from rfl, HC.out]; exact hJ3, hnx.trans hk3⟩
          case measure => simp [intOf]
        · gi_wp2
          refine bodyPost_ret (results_none rfl _ _ _) rfl ?_
          exact ⟨⟨_, rfl⟩, .inr ⟨_, by rw [← HC.out]; exact List.prefix_refl _, hJx3⟩⟩
    · gi_wp2
      go_end0
      exact ⟨⟨_, rfl⟩, .inl ⟨_, rfl, hJs⟩⟩

set_option maxRecDepth 100000 in
set_option maxHeartbeats 2000000 in
/-- The closure, at a number that is no phase: no round. -/
theorem next1_high_in (F : Fence) (n : Nat) (h19 : F.fn 19) (hro : F.round = none) (l Bs : Nat) (a : Int) (ha : 11 ≤ a) (J : List Int → World → Prop)
    (W : World) (hBs : W.cell? ⟨Bs, 0, none⟩ = some (.int .u8 a)) (h0 : J [] W) :
    CallsIn F n Tryd.prog 19 #[.func (.yield l) #[] #[], .pointer (some ⟨Bs, 0, none⟩)] W fun e W' => (∃ v, e = .returned v) ∧ J [] W' := by
  refine callsIn_of_wp Tryd.func19 rfl h19 ?_ hro
  simp only [Tryd.ntmps19, List.size_toArray, List.length_cons, List.length_nil, Nat.reduceAdd, Nat.reduceSub, Array.replicate_succ, Array.replicate_zero, List.push_toArray, List.append_toArray, List.nil_append, List.cons_append]
  gi_wp2
  refine bodyPost_ret (results_none rfl _ _ _) rfl ?_
  exact ⟨⟨_, rfl⟩, h0⟩

/-- All the phases that may follow a number. -/
def allNext (a : Int) : List Int := if a < 11 then came a.toNat 2 else []

/-- next's function value gives the phases that may follow, in order. -/
theorem next_stops (F : Fence) (n : Nat) (h19 : F.fn 19) (hro : F.round = none) (hn : 1 ≤ n) (Bs n₀ : Nat) (a : Int) (h0 : 0 ≤ a) (w : World) (hBs : Bs < w.heap.size) (hn0 : 2 ≤ w.heap.size)
    (hc : w.cell? ⟨Bs, 0, none⟩ = some (.int .u8 a)) (hT : Tables w) :
    SeqStopsK F n Tryd.prog 19 #[.pointer (some ⟨Bs, 0, none⟩)] (fun x : Int => #[Value.int .u8 x]) (Below n₀) (fun ys => ys = allNext a) (fun pre => pre <+: allNext a) 3 w := fun l J Jx W hW _ _ hY hJ => by
  have hc' := (hW.cell (p := ⟨Bs, 0, none⟩) hBs).trans hc
  have hT' := hT.below hW hn0
  unfold allNext
  by_cases h : a < 11
  · obtain ⟨m, rfl⟩ := Int.eq_ofNat_of_zero_le h0
    rw [if_pos h]
    exact next1_in F n h19 hro hn l Bs n₀ m (by omega) J Jx hY W hc' hT' hJ
  · rw [if_neg h]
    exact (next1_high_in F n h19 hro l Bs a (by omega) J W hc' hJ).mono fun e W' ⟨he, hj⟩ => ⟨he, .inl ⟨_, rfl, hj⟩⟩

def legalB (a b : Int) : Bool := decide (b ∈ allNext a)

set_option maxRecDepth 100000 in
set_option maxHeartbeats 2000000 in
theorem legal_in (F : Fence) (n : Nat) (h8 : F.fn 9) (h16 : F.fn 16) (h19 : F.fn 19) (hro : F.round = none) (hn : 3 ≤ n) (a b : Int) (h0 : 0 ≤ a) (w : World) (hw : 2 ≤ w.heap.size) (hT : Tables w) :
    CallsIn F n Tryd.prog 9 #[.int .u8 a, .int .u8 b] w fun e W' => e = .returned (.bool (legalB a b)) ∧ Below w.heap.size w W' := by
  have h1 : 1 ≤ n := by omega
  refine callsIn_of_wp_marks Tryd.func9 rfl h8 ?_ hro
  simp only [Tryd.ntmps9, List.size_toArray, List.length_cons, List.length_nil, Nat.reduceAdd, Nat.reduceSub, Array.replicate_succ, Array.replicate_zero, List.push_toArray, List.append_toArray, List.nil_append, List.cons_append]
  gi_wp2_with (gi_at_call 16; refine (next_in F (n - 1) h16 hro _ _).mono ?_; rintro e w' ⟨rfl, rfl⟩)
  have c0 := cell_new_l w (.int .u8 b) 5
  have c1 := cell_new_l (w.alloc (.cells #[.int .u8 b] 5)) (.bool false) 4
  have c2 := cell_new_l ((w.alloc (.cells #[.int .u8 b] 5)).alloc (.cells #[.bool false] 4)) (.int .u8 a) 5
  simp only [World.size_alloc] at c1 c2
  have hB0 : Below w.heap.size w (((w.alloc (.cells #[.int .u8 b] 5)).alloc (.cells #[.bool false] 4)).alloc (.cells #[.int .u8 a] 5)) := (((Below.refl _ w).alloc (Nat.le_refl _) _).alloc (by simp) _).alloc (by simp; omega) _
  refine wpIn_rangeFunc_ownF hro h1 (gf := 19) (lb := #[.pointer (some ⟨w.heap.size + 1 + 1, 0, none⟩)]) rfl h19 (enters_of Tryd.func19 (by kernel_rfl) rfl)
    (next_stops F (n - 1) h19 hro (by omega) (w.heap.size + 1 + 1) w.heap.size a h0 _ (by simp) (by simp) c2.1 (hT.below hB0 hw)) belowK_t (belowK_b (by simp; omega)) (Below.refl _ _) (fun _ => rfl)
    (fun pre W => ((∀ y ∈ pre, y ≠ b) ∧ W.cell? ⟨w.heap.size, 0, none⟩ = some (.int .u8 b) ∧ W.cell? ⟨w.heap.size + 1, 0, none⟩ = some (.bool false) ∧ W.frozen? ⟨w.heap.size + 1, 0, none⟩ = false) ∧ Below w.heap.size w W)
    (fun c pre W => (c = .ret ∧ b ∈ pre ∧ W.cell? ⟨w.heap.size + 1, 0, none⟩ = some (.bool true)) ∧ Below w.heap.size w W)
    (OwnFrom.and (Own.from (fun s A B row hs hg hr => ⟨hs.1, cell_kept hs.2.1 hg hr, cell_kept hs.2.2.1 hg hr, (frozen_kept hs.2.2.1 hg hr).trans hs.2.2.2⟩) _) (ownFrom_below (Nat.le_refl _) (by simp; omega)))
    (fun c => OwnFrom.and (Own.from (fun s A B row hs hg hr => ⟨hs.1, hs.2.1, cell_kept hs.2.2 hg hr⟩) _) (ownFrom_below (Nat.le_refl _) (by simp; omega)))
    ⟨⟨by simp, cell_alloc_l _ (cell_alloc_l _ c0.1), cell_alloc_l _ c1.1, frozen_alloc_l _ c1.1 c1.2⟩, hB0⟩
    (fun x => { tmps := #[.int .u8 a, .int .u8 b, undef, .pointer (some ⟨w.heap.size, 0, none⟩), .pointer (some ⟨w.heap.size + 1, 0, none⟩), .int .u8 x, .int .u8 a, .func (.func 19) #[] #[.pointer (some ⟨w.heap.size + 1 + 1, 0, none⟩)], .int .u8 x, undef, undef, undef], defers := [] }) ?assign ?body ?done ?stop
  case assign =>
    intro l x W K hK
    gi_wp2
    exact hK
  case body =>
    rintro l pre x W ⟨⟨hp, hcw, hcr, hfr⟩, hB⟩ _
    gi_wp2
    · rename_i hx
      obtain rfl : x = b := eq_of_beq hx
      exact ⟨KeepsOthers.setCell _ _ _, ⟨rfl, List.mem_append.2 (.inr (by simp)), World.cell?_setCell_same' _ _ _ (by rw [hcr]; rfl)⟩, hB.setCell (p := ⟨w.heap.size + 1, 0, none⟩) (by simp) _⟩
    · rename_i hx
      exact ⟨KeepsOthers.refl _, Below.refl _ _, ⟨fun y hy => (List.mem_append.1 hy).elim (hp y) (fun e e' => by simp at e; subst e; subst e'; simp at hx), hcw, hcr, hfr⟩, hB⟩
  case done =>
    rintro D ys W hD rfl ⟨⟨hne, _, hcr, hfr⟩, hB⟩ hK
    gi_wp2
    have hK' := (KeepsOthers.setCell W ⟨w.heap.size + 1, 0, none⟩ (.bool false)).same D _ hK rfl
    refine ⟨by simp, .inl ⟨_, _, rfl, run_takeDeferred hK', ?_⟩⟩
    have hc5 := cell_kept (World.cell?_setCell_same' W ⟨w.heap.size + 1, 0, none⟩ (.bool false) (by rw [hcr]; rfl)) (grownBy_putObj' _ D (.deferred none)) (fun r e => by cases e; exact ⟨_, hK', rfl⟩)
    refine ⟨.bool false, ?_, by rw [legalB, decide_eq_false (fun h => hne b h rfl)], (hB.setCell (p := ⟨w.heap.size + 1, 0, none⟩) (by simp) _).trans (belowK_b (w := w) (Nat.le_refl _) _ D _ _ (by simp at hD; omega) hK' rfl rfl)⟩
    simp [results, Tryd.f9, go_sem, hc5]
  case stop =>
    rintro D c pre W hD hpre ⟨⟨rfl, hin, hcr⟩, hB⟩ hK
    gi_wp2
    refine ⟨by simp, .inl ⟨_, _, rfl, run_takeDeferred hK, ?_⟩⟩
    have hc5 := cell_kept hcr (grownBy_putObj' _ D (.deferred none)) (fun r e => by cases e; exact ⟨_, hK, rfl⟩)
    refine ⟨.bool true, ?_, by rw [legalB, decide_eq_true (hpre.subset hin)], hB.trans (belowK_b (w := w) (Nat.le_refl _) W D _ _ (by simp at hD; omega) hK rfl rfl)⟩
    simp [results, Tryd.f9, go_sem, hc5]

theorem legal_any (a b : Int) (h0 : 0 ≤ a) (w : World) (hw : 2 ≤ w.heap.size) (hT : Tables w) :
    Calls Tryd.prog 9 #[.int .u8 a, .int .u8 b] w fun e W' => e = .returned (.bool (legalB a b)) ∧ Below w.heap.size w W' :=
  callsIn_wide.1 (legal_in Fence.wide 3 trivial trivial trivial rfl (by omega) a b h0 w hw hT)
end Go.Proofs.YtmdakmlhcgegcaaDoor
