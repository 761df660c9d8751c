/- PhaseKinds: the plain facts, and the law's contract. -/
import Derived.Test.YtmdakmlhcgegcaaDoorJ
namespace Go.Proofs.YtmdakmlhcgegcaaDoor
open Go.RowKit Go.Shelf

theorem name_empty : ∀ a : Nat, a < 11 → (nameS a).toList.isEmpty = decide (a = 0) := by decide +kernel
theorem name_same : ∀ a : Nat, a < 11 → ∀ b : Nat, b < 11 → ((nameS a).toList == (nameS b).toList) = decide (a = b) := by decide +kernel
theorem came_range : ∀ a : Nat, a < 11 → ∀ x ∈ came a 2, 1 ≤ x ∧ x < 11 ∧ (a : Int) ≠ x ∧ 1 ≤ a ∧ (goesB a = true → standsB x = true → x = 4) := by decide +kernel
theorem class_of : ∀ a : Nat, a < 11 → 1 ≤ a → (standsB a = true ∧ goesB a = false ∧ ((a : Int) == 9) = false) ∨ (standsB a = false ∧ goesB a = true ∧ ((a : Int) == 9) = false) ∨ (standsB a = false ∧ goesB a = false ∧ ((a : Int) == 9) = true) := by decide +kernel
theorem empty_list : (⟨#[]⟩ : ByteArray).toList.isEmpty = true := by decide +kernel

theorem legal_yes {a b : Int} (h0 : 0 ≤ a) (h : legalB a b = true) : a < 11 ∧ 1 ≤ b ∧ b < 11 ∧ a ≠ b ∧ 1 ≤ a ∧ (goesB a = true → standsB b = true → b = 4) := by
  unfold legalB allNext at h
  by_cases ha : a < 11
  · rw [if_pos ha] at h
    obtain ⟨m, rfl⟩ := Int.eq_ofNat_of_zero_le h0
    obtain ⟨h1, h2, h3, h4, h5⟩ := came_range m (by omega) b (of_decide_eq_true h)
    exact ⟨ha, h1, h2, h3, by omega, h5⟩
  · rw [if_neg ha] at h
    simp at h

theorem name_empty_any {a : Int} (h0 : 0 ≤ a) : (nameV a).toList.isEmpty = decide (a < 1 ∨ 11 ≤ a) := by
  unfold nameV
  by_cases ha : a < 11
  · rw [if_pos ha]
    obtain ⟨m, rfl⟩ := Int.eq_ofNat_of_zero_le h0
    have := name_empty m (by omega)
    rw [show ((m : Int)).toNat = m from rfl, this]
    apply decide_eq_decide.2
    omega
  · rw [if_neg ha, empty_list]
    simp; omega

theorem name_same_any {a b : Int} (h0 : 1 ≤ a) (h1 : a < 11) (hb : 0 ≤ b) : ((nameV a).toList == (nameV b).toList) = (a == b) := by
  obtain ⟨m, rfl⟩ := Int.eq_ofNat_of_zero_le (show 0 ≤ a by omega)
  by_cases hb1 : b < 11
  · obtain ⟨k, rfl⟩ := Int.eq_ofNat_of_zero_le hb
    have := name_same m (by omega) k (by omega)
    unfold nameV
    rw [if_pos h1, if_pos hb1]
    rw [show ((m : Int)).toNat = m from rfl, show ((k : Int)).toNat = k from rfl, this, Bool.eq_iff_iff]
    simp
    omega
  · have e1 := name_empty_any (a := (m : Int)) (by omega)
    have e2 := name_empty_any hb
    rw [decide_eq_false (by omega)] at e1
    rw [decide_eq_true (by omega)] at e2
    have hne : ((m : Int) == b) = false := by simp; omega
    rw [hne]
    simp only [List.isEmpty_iff] at e2
    rw [e2]
    cases h : (nameV (m : Int)).toList with
    | nil => rw [h] at e1; simp at e1
    | cons x l => rfl

theorem none_class {a : Int} (h : a < 1 ∨ 11 ≤ a) : standsB a = false ∧ goesB a = false ∧ (a == 9) = false := by
  refine ⟨?_, ?_, ?_⟩
  · simp [standsB]; omega
  · simp [goesB]; omega
  · simp; omega

theorem kinds_any (a b : Int) (ha0 : 0 ≤ a) (ha1 : a ≤ 255) (hb0 : 0 ≤ b) (hb1 : b ≤ 255) (w : World) (hw : 2 ≤ w.heap.size) (hT : Tables w) :
    Calls Tryd.prog 4 #[.int .u8 a, .int .u8 b] w fun e w' => e = .returned (.bool true) ∧ Below w.heap.size w w' := by
  have he := name_empty_any ha0
  by_cases hi : a < 1 ∨ 11 ≤ a
  · rw [decide_eq_true hi] at he
    obtain ⟨hs, hg, h9⟩ := none_class hi
    have hl : legalB a b = false := by
      cases h : legalB a b with
      | false => rfl
      | true => have := legal_yes ha0 h; omega
    rcases hi with hi | hi
    · exact kinds_none_low a b ha0 ha1 hi he hs hg h9 hl w hw hT
    · exact kinds_none_high a b ha0 ha1 hi he hs hg h9 hl w hw hT
  · rw [decide_eq_false hi] at he
    have h1 : 1 ≤ a := by omega
    have h2 : a < 11 := by omega
    have hq := name_same_any h1 h2 hb0
    obtain ⟨m, rfl⟩ := Int.eq_ofNat_of_zero_le ha0
    have hc := class_of m (by omega) (by omega)
    cases hl : legalB (m : Int) b with
    | true =>
      obtain ⟨_, b1, b2, hne, _, h4⟩ := legal_yes ha0 hl
      have hab : ((m : Int) == b) = false := by simpa using hne
      rw [hab] at hq
      rcases hc with ⟨hs, hg, h9⟩ | ⟨hs, hg, h9⟩ | ⟨hs, hg, h9⟩
      · exact kinds_stands_yes m b h1 h2 hb0 hb1 he hs hg h9 hab hq b1 b2 hl w hw hT
      · cases hsb : standsB b with
        | true => exact kinds_goes_yes_stands m b h1 h2 hb0 hb1 he hs hg h9 hab hq b1 b2 hl hsb (by simp [h4 hg hsb]) w hw hT
        | false => exact kinds_goes_yes_not m b h1 h2 hb0 hb1 he hs hg h9 hab hq b1 b2 hl hsb w hw hT
      · exact kinds_warm_yes m b h1 h2 hb0 hb1 he hs hg h9 hab hq b1 b2 hl w hw hT
    | false =>
      cases hab : ((m : Int) == b) with
      | true =>
        rw [hab] at hq
        rcases hc with ⟨hs, hg, h9⟩ | ⟨hs, hg, h9⟩ | ⟨hs, hg, h9⟩
        · exact kinds_stands_same_no m b h1 h2 hb0 hb1 he hs hg h9 hab hq hl w hw hT
        · exact kinds_goes_same_no m b h1 h2 hb0 hb1 he hs hg h9 hab hq hl w hw hT
        · exact kinds_warm_same_no m b h1 h2 hb0 hb1 he hs hg h9 hab hq hl w hw hT
      | false =>
        rw [hab] at hq
        rcases hc with ⟨hs, hg, h9⟩ | ⟨hs, hg, h9⟩ | ⟨hs, hg, h9⟩
        · exact kinds_stands_other_no m b h1 h2 hb0 hb1 he hs hg h9 hab hq hl w hw hT
        · exact kinds_goes_other_no m b h1 h2 hb0 hb1 he hs hg h9 hab hq hl w hw hT
        · exact kinds_warm_other_no m b h1 h2 hb0 hb1 he hs hg h9 hab hq hl w hw hT
end Go.Proofs.YtmdakmlhcgegcaaDoor
