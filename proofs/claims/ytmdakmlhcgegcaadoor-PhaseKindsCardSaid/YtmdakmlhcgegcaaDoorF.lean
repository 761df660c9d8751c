/- Contracts of Find's closure, slices.IndexFunc at it, and Find. -/
import Derived.OwnWalk
import Derived.Lib.Hide
import Derived.LoopTactic
import Derived.Test.YtmdakmlhcgegcaaDoorC
namespace Go.Proofs.YtmdakmlhcgegcaaDoor
open Go.RowKit Go.Shelf

/-- A slice value that holds n instances, the i-th with the number ids i. -/
def Kepts (w : World) (B : Nat) (v : Value) (n : Nat) (ids : Nat → Int) : Prop :=
  (∃ a cap, v = .slice a 0 cap ∧ n = 0) ∨
  ∃ b off cap, v = .slice (some ⟨b, off, none⟩) n cap ∧ b < B ∧ ∀ i, i < n → ∃ c1 c2 c3 c4 c5 c6 c7 : Value,
    w.cell? ⟨b, off + i * 8, none⟩ = some (.int .i64 (ids i)) ∧ w.cell? ⟨b, off + i * 8 + 1, none⟩ = some c1 ∧ w.cell? ⟨b, off + i * 8 + 2, none⟩ = some c2 ∧ w.cell? ⟨b, off + i * 8 + 3, none⟩ = some c3 ∧
    w.cell? ⟨b, off + i * 8 + 4, none⟩ = some c4 ∧ w.cell? ⟨b, off + i * 8 + 5, none⟩ = some c5 ∧ w.cell? ⟨b, off + i * 8 + 6, none⟩ = some c6 ∧ w.cell? ⟨b, off + i * 8 + 7, none⟩ = some c7

theorem Kepts.below {w w' : World} {B : Nat} {v : Value} {n : Nat} {ids : Nat → Int} (h : Kepts w B v n ids) (hb : Below B w w') : Kepts w' B v n ids := by
  rcases h with h | ⟨b, off, cap, hv, hB, h⟩
  · exact .inl h
  · refine .inr ⟨b, off, cap, hv, hB, fun i hi => ?_⟩
    obtain ⟨c1, c2, c3, c4, c5, c6, c7, h0, h1, h2, h3, h4, h5, h6, h7⟩ := h i hi
    have e : ∀ o, w'.cell? ⟨b, o, none⟩ = w.cell? ⟨b, o, none⟩ := fun o => hb.cell (p := ⟨b, o, none⟩) hB
    simp only [e]
    exact ⟨c1, c2, c3, c4, c5, c6, c7, h0, h1, h2, h3, h4, h5, h6, h7⟩

theorem Kepts.mono {w : World} {B B' : Nat} {v : Value} {n : Nat} {ids : Nat → Int} (h : Kepts w B v n ids) (hb : B ≤ B') : Kepts w B' v n ids := by
  rcases h with h | ⟨b, off, cap, hv, hB, h⟩
  · exact .inl h
  · exact .inr ⟨b, off, cap, hv, by omega, h⟩

theorem find1_any (x id : Int) (c1 c2 c3 c4 c5 c6 c7 : Value) (Bi : Nat) (w : World) (hc : w.cell? ⟨Bi, 0, none⟩ = some (.int .i64 id)) :
    Calls Tryd.prog 18 #[.agg #[.int .i64 x, c1, c2, c3, c4, c5, c6, c7], .pointer (some ⟨Bi, 0, none⟩)] w fun e w' => e = .returned (.bool (x == id)) ∧ Below w.heap.size w w' := by
  have hc2 : (w.alloc (.cells #[.int .i64 x, c1, c2, c3, c4, c5, c6, c7] 23)).cell? ⟨Bi, 0, none⟩ = some (.int .i64 id) := cell_alloc_l _ hc
  go_enter Tryd.func18, Tryd.ntmps18
  go_wp2
  go_ret
  exact ⟨rfl, (Below.refl _ _).alloc (Nat.le_refl _) _⟩

/-- The place of the first one of an id among n. -/
def firstAt (ids : Nat → Int) (id : Int) (n : Nat) : Int := match (List.range n).find? (fun i => ids i == id) with | some i => i | none => -1

theorem firstAt_hit (ids : Nat → Int) (id : Int) (n k : Nat) (hk : k < n) (h : ids k = id) (hb : ∀ j, j < k → ids j ≠ id) : firstAt ids id n = k := by
  unfold firstAt
  have : (List.range n).find? (fun i => ids i == id) = some k := by
    rw [List.find?_eq_some_iff_getElem]
    refine ⟨by simp [h], k, by simpa using hk, by simp, fun j hj => ?_⟩
    have := hb j hj
    simpa using this
  rw [this]
theorem firstAt_miss (ids : Nat → Int) (id : Int) (n : Nat) (hb : ∀ j, j < n → ids j ≠ id) : firstAt ids id n = -1 := by
  unfold firstAt
  have : (List.range n).find? (fun i => ids i == id) = none := by
    rw [List.find?_eq_none]
    intro j hj
    have := hb j (by simpa using hj)
    simpa using this
  rw [this]

set_option maxRecDepth 100000 in
set_option maxHeartbeats 1000000 in
theorem indexFunc_any (v : Value) (n : Nat) (ids : Nat → Int) (id : Int) (Bi B : Nat) (hn : n ≤ 60) (w : World) (hB : Bi < B) (hBw : B ≤ w.heap.size) (hc : w.cell? ⟨Bi, 0, none⟩ = some (.int .i64 id)) (hk : Kepts w B v n ids) :
    Calls Tryd.prog 17 #[v, .func (.func 18) #[] #[.pointer (some ⟨Bi, 0, none⟩)]] w fun e w' => e = .returned (.int .i64 (firstAt ids id n)) ∧ Below w.heap.size w w' := by
  rcases hk with ⟨a, cap, rfl, rfl⟩ | ⟨b, off, cap, rfl, hb, hcells⟩
  · have hf := Lib.hid (firstAt_miss ids id 0 (by simp))
    go_enter Tryd.func17, Tryd.ntmps17
    go_wp2
    refine wp_loop_rounds 1 ?_
    rw [rounds_succ]
    go_wp2
    go_ret
    rw [hf.out]
    exact ⟨rfl, Below.refl _ _⟩
  · have HC := Lib.hid hcells
    clear hcells
    go_enter Tryd.func17, Tryd.ntmps17
    go_wp2
    go_loopw [8] (fun i wr => ∃ k : Nat, k ≤ n ∧ i = .int .i64 k ∧ Hid (∀ j, j < k → ids j ≠ id) ∧ Below w.heap.size w wr) (fun i _ => n - (intOf i).toNat)
    case atStart => exact ⟨0, Nat.zero_le _, rfl, Lib.hid (by simp), Below.refl _ _⟩
    case round =>
      obtain ⟨k, hkn, rfl, hno, hBel⟩ := hrel
      by_cases hlt : k < n
      · obtain ⟨c1, c2, c3, c4, c5, c6, c7, h0, h1, h2, h3, h4, h5, h6, h7⟩ := HC.out k hlt
        have e : ∀ o, wr.cell? ⟨b, o, none⟩ = w.cell? ⟨b, o, none⟩ := fun o => hBel.cell (p := ⟨b, o, none⟩) (show b < _ by omega)
        rw [← e] at h0 h1 h2 h3 h4 h5 h6 h7
        have hc' : wr.cell? ⟨Bi, 0, none⟩ = some (.int .i64 id) := (hBel.cell (p := ⟨Bi, 0, none⟩) (show Bi < _ by omega)).trans hc
        clear e hc
        go_wp2_with (go_at_call 18; refine (find1_any _ _ _ _ _ _ _ _ _ _ _ hc').mono ?_; rintro e w' ⟨rfl, hb2⟩)
        · have hx : ids k = id := eq_of_beq (by assumption)
          go_ret
          rw [firstAt_hit ids id n k hlt hx hno.out]
          exact ⟨rfl, hBel.trans (hb2.mono hBel.size)⟩
        · have hx : (ids k == id) = false := by assumption
          go_roundw
          case rel =>
            refine ⟨k + 1, by omega, by go_num, Lib.hid (fun j hj => ?_), hBel.trans (hb2.mono hBel.size)⟩
            by_cases hjk : j = k
            · subst hjk; simpa using hx
            · exact hno.out j (by omega)
          case measure => simp [intOf]; omega
      · obtain rfl : k = n := by omega
        go_wp2
        go_ret
        rw [firstAt_miss ids id k hno.out]
        exact ⟨rfl, hBel⟩

set_option maxHeartbeats 1000000 in
theorem find_any (v : Value) (n : Nat) (ids : Nat → Int) (id : Int) (hn : n ≤ 60) (w : World) (hk : Kepts w w.heap.size v n ids) :
    Calls Tryd.prog 14 #[v, .int .i64 id] w fun e w' => e = .returned (.int .i64 (firstAt ids id n)) ∧ Below w.heap.size w w' := by
  have hB : Below w.heap.size w (w.alloc (.cells #[.int .i64 id] 3)) := (Below.refl _ _).alloc (Nat.le_refl _) _
  have hk' : Kepts (w.alloc (.cells #[.int .i64 id] 3)) (w.heap.size + 1) v n ids := (hk.below hB).mono (by omega)
  have hc := (cell_new_l w (.int .i64 id) 3).1
  have HK := Lib.hid hk'
  clear hk hk'
  go_enter Tryd.func14, Tryd.ntmps14
  go_wp2_with (go_at_call 17; refine (indexFunc_any v n ids id w.heap.size (w.heap.size + 1) hn _ (by omega) (by simp) hc HK.out).mono ?_; rintro e w' ⟨rfl, hb2⟩)
  go_ret
  exact ⟨rfl, hB.trans (hb2.mono (by simp))⟩
end Go.Proofs.YtmdakmlhcgegcaaDoor
