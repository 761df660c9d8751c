/- The walk of PhaseFind. -/
import Derived.Test.YtmdakmlhcgegcaaDoorJ
namespace Go.Proofs.YtmdakmlhcgegcaaDoor
open Go.RowKit Go.Shelf

/-- What is told of the place f that Find hands back. -/
structure FirstIs (ids : Nat → Int) (id : Int) (n : Nat) (f : Int) : Prop where
  low : -1 ≤ f
  high : f < n ∨ f = -1
  hit : ∀ i, i < n → ids i = id → 0 ≤ f ∧ f ≤ i
  miss : ∀ i : Nat, i < n → ids i ≠ id → (i : Int) ≠ f

theorem firstAt_is (ids : Nat → Int) (id : Int) (n : Nat) : FirstIs ids id n (firstAt ids id n) := by
  unfold firstAt
  cases h : (List.range n).find? (fun i => ids i == id) with
  | none =>
    rw [List.find?_eq_none] at h
    show FirstIs ids id n (-1)
    refine ⟨by simp, .inr rfl, fun i hi he => ?_, fun i hi _ => by omega⟩
    have := h i (by simpa using hi)
    simp [he] at this
  | some j =>
    rw [List.find?_eq_some_iff_getElem] at h
    obtain ⟨hj, k, hk, hkj, hlt⟩ := h
    have hkj' : k = j := by simpa using hkj
    subst hkj'
    have hkn : k < n := by simpa using hk
    show FirstIs ids id n (k : Int)
    refine ⟨by omega, .inl (by omega), fun i hi he => ⟨by omega, ?_⟩, fun i hi hne => ?_⟩
    · by_cases hik : i < k
      · have := hlt i hik
        simp [he] at this
      · omega
    · intro he
      have : i = k := by omega
      subst this
      simp at hj
      exact hne hj

set_option maxRecDepth 100000 in
set_option maxHeartbeats 4000000 in
theorem findlaw_great (v : Value) (n cap : Nat) (a : Option Addr) (hv : v = .slice a n cap) (hn : 60 < n) (id : Int) (w : World) (hw : 2 ≤ w.heap.size) (hT : Tables w) :
    Calls Tryd.prog 6 #[v, .int .i64 id] w fun e w' => e = .returned (.bool true) ∧ Below w.heap.size w w' := by
  subst hv
  have h0 : St w w := ⟨Below.refl _ _, hT, hw⟩
  clear hw hT
  go_enter Tryd.func6, Tryd.ntmps6
  go_wp2_with fail
  refine (wakes_c h0).mono ?_
  rintro e w2 ⟨rfl, h2⟩
  go_wp2
  go_ret
  exact ⟨rfl, h2.below⟩

set_option maxRecDepth 100000 in
set_option maxHeartbeats 4000000 in
theorem findlaw_nil (a : Option Addr) (cap : Nat) (ids : Nat → Int) (id : Int) (w : World) (hw : 2 ≤ w.heap.size) (hT : Tables w) :
    Calls Tryd.prog 6 #[.slice a 0 cap, .int .i64 id] w fun e w' => e = .returned (.bool true) ∧ Below w.heap.size w w' := by
  have h0 : St w w := ⟨Below.refl _ _, hT, hw⟩
  clear hw hT
  have hf := Lib.hid (firstAt_miss ids id 0 (by simp))
  go_enter Tryd.func6, Tryd.ntmps6
  go_wp2_with fail
  refine (find_any _ 0 ids id (by omega) _ (.inl ⟨a, cap, rfl, rfl⟩)).mono ?_
  rw [hf.out]
  rintro e w2 ⟨rfl, hb⟩
  have h2 := h0.next hb
  go_wp2_with fail
  refine wp_loop_rounds 1 ?_
  rw [rounds_succ]
  go_wp2_with fail
  refine (wakes_c h2).mono ?_
  rintro e w3 ⟨rfl, h3⟩
  go_wp2
  go_ret
  exact ⟨rfl, h3.below⟩

set_option maxRecDepth 100000 in
set_option maxHeartbeats 4000000 in
theorem findlaw_some (b off n cap : Nat) (ids : Nat → Int) (id : Int) (hn : n ≤ 60) (w : World) (hB : b < w.heap.size) (hcells : ∀ i, i < n → ∃ c1 c2 c3 c4 c5 c6 c7 : Value,
    w.cell? ⟨b, off + i * 8, none⟩ = some (.int .i64 (ids i)) ∧ w.cell? ⟨b, off + i * 8 + 1, none⟩ = some c1 ∧ w.cell? ⟨b, off + i * 8 + 2, none⟩ = some c2 ∧ w.cell? ⟨b, off + i * 8 + 3, none⟩ = some c3 ∧
    w.cell? ⟨b, off + i * 8 + 4, none⟩ = some c4 ∧ w.cell? ⟨b, off + i * 8 + 5, none⟩ = some c5 ∧ w.cell? ⟨b, off + i * 8 + 6, none⟩ = some c6 ∧ w.cell? ⟨b, off + i * 8 + 7, none⟩ = some c7) (hw : 2 ≤ w.heap.size) (hT : Tables w) :
    Calls Tryd.prog 6 #[.slice (some ⟨b, off, none⟩) n cap, .int .i64 id] w fun e w' => e = .returned (.bool true) ∧ Below w.heap.size w w' := by
  have h0 : St w w := ⟨Below.refl _ _, hT, hw⟩
  clear hw hT
  have HF := Lib.hid (find_any _ n ids id hn w (.inr ⟨b, off, cap, rfl, hB, hcells⟩))
  have hfi := firstAt_is ids id n
  generalize firstAt ids id n = f at HF hfi
  have hlo := hfi.low
  have hhi := hfi.high
  have g1 : decide (f < -1) = false := by simp; omega
  have g2 : decide ((n : Int) ≤ f) = false := by simp; omega
  have g3 : decide (60 < (n : Int)) = false := by simp; omega
  have HC : Hid (∀ i, i < n → w.cell? ⟨b, off + i * 8, none⟩ = some (.int .i64 (ids i))) := Lib.hid (fun i hi => by obtain ⟨_, _, _, _, _, _, _, h, _⟩ := hcells i hi; exact h)
  clear hcells hhi hlo
  go_enter Tryd.func6, Tryd.ntmps6
  go_wp2_with fail
  refine HF.out.mono ?_
  rintro e w2 ⟨rfl, hb⟩
  have h2 := h0.next hb
  clear h0 HF
  go_wp2_with fail
  go_loopw [6] (fun s6 wr => ∃ i : Nat, i ≤ n ∧ s6 = .int .i64 i ∧ St w wr) (fun s6 _ => n - (intOf s6).toNat)
  case atStart => exact ⟨0, by omega, rfl, h2⟩
  case round =>
    clear h2 hb
    obtain ⟨i, hi, rfl, h2⟩ := hrel
    by_cases hlt : i < n
    · have c0 := (h2.below.cell (p := ⟨b, off + i * 8, none⟩) hB).trans (HC.out i hlt)
      by_cases hx : ids i = id
      · obtain ⟨f1, f2⟩ := hfi.hit i hlt hx
        have k1 : (ids i == id) = true := by simp [hx]
        have k2 : (ids i != id) = false := by simp [hx]
        have k3 : decide (f < 0) = false := by simp; omega
        have k4 : decide ((i : Int) < f) = false := by simp; omega
        clear hx
        by_cases hif : (i : Int) = f
        · subst hif
          clear f1 f2
          go_wp2_with fail
          go_roundw
          case rel => exact ⟨i + 1, by omega, by go_num, h2⟩
          case measure => simp [intOf]; omega
        · have k5 : ((i : Int) == f) = false := by simpa using hif
          clear f1 f2 hif
          go_wp2_with fail
          go_roundw
          case rel => exact ⟨i + 1, by omega, by go_num, h2⟩
          case measure => simp [intOf]; omega
      · have k1 : (ids i == id) = false := by simp [hx]
        have k2 : ((i : Int) == f) = false := by simpa using hfi.miss i hlt hx
        clear hx
        go_wp2_with fail
        go_roundw
        case rel => exact ⟨i + 1, by omega, by go_num, h2⟩
        case measure => simp [intOf]; omega
    · obtain rfl : i = n := by omega
      go_wp2_with fail
      refine (wakes_c h2).mono ?_
      rintro e w3 ⟨rfl, h3⟩
      go_wp2
      go_ret
      exact ⟨rfl, h3.below⟩
end Go.Proofs.YtmdakmlhcgegcaaDoor
