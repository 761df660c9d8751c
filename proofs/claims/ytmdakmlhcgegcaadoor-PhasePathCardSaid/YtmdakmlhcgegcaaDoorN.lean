/- The walk of PhasePath. -/
import Derived.Deep.QuietTactic
import Derived.BigQuiet
import Derived.StillTailTactics
import Derived.IntWalk
import Derived.Test.YtmdakmlhcgegcaaDoorJ
namespace Go.Proofs.YtmdakmlhcgegcaaDoor
open Go.RowKit Go.Shelf

set_option maxRecDepth 100000 in
set_option maxHeartbeats 4000000 in
theorem pathlaw_none (a : Int) (ha0 : 0 ≤ a) (hi : a < 1 ∨ 11 ≤ a) (w : World) (hw : 2 ≤ w.heap.size) (hT : Tables w) :
    Calls Tryd.prog 5 #[.int .u8 a] w fun e w' => e = .returned (.bool true) ∧ Below w.heap.size w w' := by
  have h0 : St w w := ⟨Below.refl _ _, hT, hw⟩
  clear hw hT
  have HP := Lib.hid (path_none a hi ha0 w)
  rcases hi with hi | hi
  all_goals
    go_enter Tryd.func5, Tryd.ntmps5
    go_wp2_with fail
    refine HP.out.mono ?_
    rintro e w1 ⟨rfl, rfl⟩
    clear HP
    go_wp2_with fail
    refine (wakes_c h0).mono ?_
    rintro e w2 ⟨rfl, h2⟩
    go_wp2
    go_ret
    exact ⟨rfl, h2.below⟩

/-- The j-th of a path. -/
def pAt (l : List Int) (j : Nat) : Int := l.getD j 0

/-- What the walk is told of a path of k + 1 phases. -/
structure Good (l : List Int) (m k : Nat) : Prop where
  len : l.length = k + 1
  small : k < 10
  first : pAt l 0 = m
  last : pAt l k = 8
  range : ∀ j, j < k + 1 → 0 ≤ pAt l j
  legal : ∀ j, j < k → legalB (pAt l j) (pAt l (j + 1)) = true
  apart : ∀ i, i < k + 1 → ∀ j, j < i → pAt l j ≠ pAt l i

theorem good_path : ∀ m : Nat, m < 11 → 1 ≤ m → Good (pathOf m) m ((pathOf m).length - 1) := by
  have h : ∀ m : Nat, m < 11 → 1 ≤ m → (pathOf m).length = ((pathOf m).length - 1) + 1 ∧ (pathOf m).length - 1 < 10 ∧ pAt (pathOf m) 0 = m ∧ pAt (pathOf m) ((pathOf m).length - 1) = 8 ∧
      (∀ j, j < (pathOf m).length - 1 + 1 → 0 ≤ pAt (pathOf m) j) ∧ (∀ j, j < (pathOf m).length - 1 → legalB (pAt (pathOf m) j) (pAt (pathOf m) (j + 1)) = true) ∧
      (∀ i, i < (pathOf m).length - 1 + 1 → ∀ j, j < i → pAt (pathOf m) j ≠ pAt (pathOf m) i) := by decide +kernel
  intro m h1 h2
  obtain ⟨a, b, c, d, e, f, g⟩ := h m h1 h2
  exact ⟨a, b, c, d, e, f, g⟩

set_option maxRecDepth 100000 in
set_option maxHeartbeats 4000000 in
theorem pathlaw_some (m k : Nat) (ha0 : 1 ≤ m) (hi : m < 11) (hk : Good (pathOf m) m k) (w : World) (hw : 2 ≤ w.heap.size) (hT : Tables w) :
    Calls Tryd.prog 5 #[.int .u8 m] w fun e w' => e = .returned (.bool true) ∧ Below w.heap.size w w' := by
  have h0 : St w w := ⟨Below.refl _ _, hT, hw⟩
  clear hw hT
  have hp : pathI (m : Int) = pathOf m := by unfold pathI; rw [if_pos (by omega)]; rfl
  have HP := Lib.hid (path_c (m : Int) (pathOf m) hp (by rw [hk.len]; omega) (by omega) h0)
  clear hp
  go_enter Tryd.func5, Tryd.ntmps5
  go_wp2_with fail
  refine HP.out.mono ?_
  rintro e w1 ⟨g, cap, rfl, h1, hg, hcell⟩
  clear HP h0
  rw [hk.len] at hcell ⊢
  have HC : Hid (∀ j, j < k + 1 → w1.cell? ⟨g, j, none⟩ = some (.int .u8 (pAt (pathOf m) j))) := Lib.hid hcell
  have c0 := HC.out 0 (by omega)
  have ck := HC.out k (by omega)
  have hf : (pAt (pathOf m) 0 != m) = false := by rw [hk.first]; simp
  have hl : (pAt (pathOf m) k != 8) = false := by rw [hk.last]; simp
  have hks := hk.small
  have hb1 : decide ((m : Int) < 1) = false := by simp; omega
  have hb2 : decide (11 ≤ (m : Int)) = false := by simp; omega
  have hz : ((k : Int) + 1 == 0) = false := by simp; omega
  clear hcell
  go_wp2_with fail
  go_loopw [4, 5] (fun s4 _ wr => ∃ i : Nat, 1 ≤ i ∧ i ≤ k + 1 ∧ s4 = .int .i64 i ∧ St w wr ∧ Below w1.heap.size w1 wr) (fun s4 _ _ => k + 1 - (intOf s4).toNat)
  case atStart => exact ⟨1, by omega, by omega, rfl, h1, Below.refl _ _⟩
  case round =>
    obtain ⟨i, hi1, hi2, rfl, hst, hbel⟩ := hrel
    by_cases hlt : i < k + 1
    · obtain ⟨j, rfl⟩ : ∃ j, i = j + 1 := ⟨i - 1, by omega⟩
      have e : ∀ o, wr.cell? ⟨g, o, none⟩ = w1.cell? ⟨g, o, none⟩ := fun o => hbel.cell (p := ⟨g, o, none⟩) hg
      have d0 := (e j).trans (HC.out j (by omega))
      have d1 := (e (j + 1)).trans (HC.out (j + 1) (by omega))
      have hdk : decide (j < k) = true := by simp; omega
      clear e
      go_wp2_with fail
      have hwr : IntKind.i64.wrap (j : Int) = j := IntWalk.i64_in _ (by omega)
      have hj1 : (j : Int) < (k : Int) + 1 := by omega
      have hj2 : (j : Int) < (k : Int) := by omega
      have hj3 : 0 ≤ (j : Int) + 1 := by omega
      have hj4 : ((j : Int) + 1).toNat = j + 1 := by omega
      go_still_tail 9, (by kernel_rfl)
      change wpList _ _ _ _ _ wr.drew
      have hst' : St w wr.drew := ⟨hst.below.drew, ⟨hst.tables.follow, hst.tables.names⟩, hst.two⟩
      have hbel' : Below w1.heap.size w1 wr.drew := hbel.drew
      clear hwr hj4 d0 d1 hst hbel
      generalize wr.drew = w3 at *
      go_wp2_with fail
      have HLg := Lib.hid (legal_any (pAt (pathOf m) j) (pAt (pathOf m) (j + 1)) (hk.range j (by omega)) w3 hst'.two hst'.tables)
      rw [hk.legal j (by omega)] at HLg
      refine HLg.out.mono ?_
      rintro e w2 ⟨rfl, hb2⟩
      have h2 := hst'.next hb2
      have hbel2 : Below w1.heap.size w1 w2 := hbel'.trans (hb2.mono hbel'.size)
      clear HLg hb2 hst' hbel'
      go_wp2_with fail
      go_loopw [2, 5] (fun _ s5 wq => ∃ q : Nat, q ≤ j + 1 ∧ s5 = .int .i64 q ∧ St w wq ∧ Below w1.heap.size w1 wq) (fun _ s5 _ => j + 1 - (intOf s5).toNat)
      case atStart => exact ⟨0, by omega, rfl, h2, hbel2⟩
      case round =>
        clear h2 hbel2
        obtain ⟨q, hq, rfl, h2, hbel2⟩ := hrel
        by_cases hql : q < j + 1
        · have d0 := (hbel2.cell (p := ⟨g, q, none⟩) hg).trans (HC.out q (by omega))
          have d1 := (hbel2.cell (p := ⟨g, j + 1, none⟩) hg).trans (HC.out (j + 1) (by omega))
          have hne : (pAt (pathOf m) q == pAt (pathOf m) (j + 1)) = false := by
            have := hk.apart (j + 1) (by omega) q hql
            simpa using this
          have hq1 : (q : Int) < (j : Int) + 1 := by omega
          have hq2 : (q : Int) < (k : Int) + 1 := by omega
          have hj4 : ((j : Int) + 1).toNat = j + 1 := by omega
          go_wp2_with fail
          go_quiet (fail)
          go_wp2
          have hnn : Below wr.heap.size wr (wr.drewN nq) := below_drewN (Below.refl _ _) _
          go_roundw
          case rel => exact ⟨q + 1, by omega, by go_num, h2.next hnn, hbel2.trans (hnn.mono hbel2.size)⟩
          case measure => simp [intOf]; omega
        · obtain rfl : q = j + 1 := by omega
          go_wp2
          go_roundw
          case rel => exact ⟨j + 1 + 1, by omega, by omega, by go_num, h2, hbel2⟩
          case measure => simp [intOf]; omega
    · obtain rfl : i = k + 1 := by omega
      go_wp2_with fail
      refine (wakes_c hst).mono ?_
      rintro e w2 ⟨rfl, h2⟩
      go_wp2
      go_ret
      exact ⟨rfl, h2.below⟩
end Go.Proofs.YtmdakmlhcgegcaaDoor
