/- The walks of PhaseDue. -/
import Derived.Test.YtmdakmlhcgegcaaDoorJ
namespace Go.Proofs.YtmdakmlhcgegcaaDoor
open Go.RowKit Go.Shelf

/-- A block of 8 cells. -/
structure KBox (w : World) (B : Nat) (v0 v1 v2 v3 v4 v5 v6 v7 : Value) : Prop where
  f0 : w.cell? ⟨B, 0, none⟩ = some v0
  f1 : w.cell? ⟨B, 1, none⟩ = some v1
  f2 : w.cell? ⟨B, 2, none⟩ = some v2
  f3 : w.cell? ⟨B, 3, none⟩ = some v3
  f4 : w.cell? ⟨B, 4, none⟩ = some v4
  f5 : w.cell? ⟨B, 5, none⟩ = some v5
  f6 : w.cell? ⟨B, 6, none⟩ = some v6
  f7 : w.cell? ⟨B, 7, none⟩ = some v7
theorem KBox.below {w w' : World} {N B : Nat} {v0 v1 v2 v3 v4 v5 v6 v7 : Value} (h : KBox w B v0 v1 v2 v3 v4 v5 v6 v7) (hb : Below N w w') (hB : B < N) : KBox w' B v0 v1 v2 v3 v4 v5 v6 v7 :=
  ⟨(hb.cell (p := ⟨B, 0, none⟩) hB).trans h.f0, (hb.cell (p := ⟨B, 1, none⟩) hB).trans h.f1, (hb.cell (p := ⟨B, 2, none⟩) hB).trans h.f2, (hb.cell (p := ⟨B, 3, none⟩) hB).trans h.f3, (hb.cell (p := ⟨B, 4, none⟩) hB).trans h.f4, (hb.cell (p := ⟨B, 5, none⟩) hB).trans h.f5, (hb.cell (p := ⟨B, 6, none⟩) hB).trans h.f6, (hb.cell (p := ⟨B, 7, none⟩) hB).trans h.f7⟩
/-- A block of 15 cells. -/
structure CBox (w : World) (B : Nat) (v0 v1 v2 v3 v4 v5 v6 v7 v8 v9 v10 v11 v12 v13 v14 : Value) : Prop where
  f0 : w.cell? ⟨B, 0, none⟩ = some v0
  f1 : w.cell? ⟨B, 1, none⟩ = some v1
  f2 : w.cell? ⟨B, 2, none⟩ = some v2
  f3 : w.cell? ⟨B, 3, none⟩ = some v3
  f4 : w.cell? ⟨B, 4, none⟩ = some v4
  f5 : w.cell? ⟨B, 5, none⟩ = some v5
  f6 : w.cell? ⟨B, 6, none⟩ = some v6
  f7 : w.cell? ⟨B, 7, none⟩ = some v7
  f8 : w.cell? ⟨B, 8, none⟩ = some v8
  f9 : w.cell? ⟨B, 9, none⟩ = some v9
  f10 : w.cell? ⟨B, 10, none⟩ = some v10
  f11 : w.cell? ⟨B, 11, none⟩ = some v11
  f12 : w.cell? ⟨B, 12, none⟩ = some v12
  f13 : w.cell? ⟨B, 13, none⟩ = some v13
  f14 : w.cell? ⟨B, 14, none⟩ = some v14
theorem CBox.below {w w' : World} {N B : Nat} {v0 v1 v2 v3 v4 v5 v6 v7 v8 v9 v10 v11 v12 v13 v14 : Value} (h : CBox w B v0 v1 v2 v3 v4 v5 v6 v7 v8 v9 v10 v11 v12 v13 v14) (hb : Below N w w') (hB : B < N) : CBox w' B v0 v1 v2 v3 v4 v5 v6 v7 v8 v9 v10 v11 v12 v13 v14 :=
  ⟨(hb.cell (p := ⟨B, 0, none⟩) hB).trans h.f0, (hb.cell (p := ⟨B, 1, none⟩) hB).trans h.f1, (hb.cell (p := ⟨B, 2, none⟩) hB).trans h.f2, (hb.cell (p := ⟨B, 3, none⟩) hB).trans h.f3, (hb.cell (p := ⟨B, 4, none⟩) hB).trans h.f4, (hb.cell (p := ⟨B, 5, none⟩) hB).trans h.f5, (hb.cell (p := ⟨B, 6, none⟩) hB).trans h.f6, (hb.cell (p := ⟨B, 7, none⟩) hB).trans h.f7, (hb.cell (p := ⟨B, 8, none⟩) hB).trans h.f8, (hb.cell (p := ⟨B, 9, none⟩) hB).trans h.f9, (hb.cell (p := ⟨B, 10, none⟩) hB).trans h.f10, (hb.cell (p := ⟨B, 11, none⟩) hB).trans h.f11, (hb.cell (p := ⟨B, 12, none⟩) hB).trans h.f12, (hb.cell (p := ⟨B, 13, none⟩) hB).trans h.f13, (hb.cell (p := ⟨B, 14, none⟩) hB).trans h.f14⟩

/-- The four waits. -/
def wait4 (hin warm drain hout : Int) (i : Nat) : Int := if i = 0 then hin else if i = 1 then warm else if i = 2 then drain else hout
def InRange (x : Int) : Prop := 0 ≤ x ∧ x ≤ 20

theorem due_v (k0 k1 k2 k3 k6 : Value) (p since : Int) (comp : Bool) (c0 c1 c2 c3 : Value) (hin hout warm drain : Int) (c8 c9 c10 c11 c12 c13 c14 : Value) (now : Int)
    (hs0 : 0 ≤ since) (hs1 : since ≤ 2199023255552) (hn0 : 0 ≤ now) (hn1 : now ≤ 2199023255552) (hp0 : 0 ≤ p)
    (t : Int) (h ok : Bool) (hl : waitsAt hin warm drain hout p = (t, h, ok)) (x : Int) (b : Bool) (hv : DueEnd p t (now - since) h ok comp = .tuple #[.int .u8 x, .bool b]) {w0 w : World} (hst : St w0 w) :
    Calls Tryd.prog 8 #[.agg #[k0, k1, k2, k3, .int .u8 p, .int .i64 since, k6, .bool comp], .agg #[c0, c1, c2, c3, .int .i64 hin, .int .i64 hout, .int .i64 warm, .int .i64 drain, c8, c9, c10, c11, c12, c13, c14], .int .i64 now] w
      fun e w' => e = .returned (.tuple #[.int .u8 x, .bool b]) ∧ Below w.heap.size w w' := by
  rw [← hv]
  exact due_any k0 k1 k2 k3 k6 p since comp c0 c1 c2 c3 hin hout warm drain c8 c9 c10 c11 c12 c13 c14 now w hst.two hst.tables hs0 hs1 hn0 hn1 hp0 t h ok hl

theorem legal_b (a b : Int) (h0 : 0 ≤ a) (hr : legalB a b = true) {w0 w : World} (h : St w0 w) :
    Calls Tryd.prog 9 #[.int .u8 a, .int .u8 b] w fun e W' => e = .returned (.bool true) ∧ Below w.heap.size w W' := by
  rw [← hr]
  exact legal_any a b h0 w h.two h.tables

set_option maxRecDepth 100000 in
set_option maxHeartbeats 8000000 in
/-- One of the waits is out of its range. -/
theorem due_far (k0 k1 k2 k3 k6 : Value) (p since : Int) (comp : Bool) (c0 c1 c2 c3 : Value) (hin hout warm drain : Int) (c8 c9 c10 c11 c12 c13 c14 : Value) (now later : Int) (hr : ¬ ∀ i, i < 4 → InRange (wait4 hin warm drain hout i)) (w : World) (hw : 2 ≤ w.heap.size) (hT : Tables w) :
    Calls Tryd.prog 3 #[.agg #[k0, k1, k2, k3, .int .u8 p, .int .i64 since, k6, .bool comp], .agg #[c0, c1, c2, c3, .int .i64 hin, .int .i64 hout, .int .i64 warm, .int .i64 drain, c8, c9, c10, c11, c12, c13, c14], .int .i64 now, .int .i64 later] w fun e w' => e = .returned (.bool true) ∧ Below w.heap.size w w' := by
  have h0 : St w w := ⟨Below.refl _ _, hT, hw⟩
  clear hw hT
  go_enter Tryd.func3, Tryd.ntmps3
  go_wp2_with fail
  have hB : Below w.heap.size w (((w.alloc (.cells #[k0, k1, k2, k3, .int .u8 p, .int .i64 since, k6, .bool comp] 23)).alloc (.cells #[c0, c1, c2, c3, .int .i64 hin, .int .i64 hout, .int .i64 warm, .int .i64 drain, c8, c9, c10, c11, c12, c13, c14] 26)).alloc (.cells #[.int .i64 hin, .int .i64 warm, .int .i64 drain, .int .i64 hout] 27)) := (((Below.refl _ _).alloc (Nat.le_refl _) _).alloc (by simp) _).alloc (by simp; omega) _
  have hK : KBox (((w.alloc (.cells #[k0, k1, k2, k3, .int .u8 p, .int .i64 since, k6, .bool comp] 23)).alloc (.cells #[c0, c1, c2, c3, .int .i64 hin, .int .i64 hout, .int .i64 warm, .int .i64 drain, c8, c9, c10, c11, c12, c13, c14] 26)).alloc (.cells #[.int .i64 hin, .int .i64 warm, .int .i64 drain, .int .i64 hout] 27)) w.heap.size (k0) (k1) (k2) (k3) (.int .u8 p) (.int .i64 since) (k6) (.bool comp) := ⟨by simp [go_sem], by simp [go_sem], by simp [go_sem], by simp [go_sem], by simp [go_sem], by simp [go_sem], by simp [go_sem], by simp [go_sem]⟩
  have hC : CBox (((w.alloc (.cells #[k0, k1, k2, k3, .int .u8 p, .int .i64 since, k6, .bool comp] 23)).alloc (.cells #[c0, c1, c2, c3, .int .i64 hin, .int .i64 hout, .int .i64 warm, .int .i64 drain, c8, c9, c10, c11, c12, c13, c14] 26)).alloc (.cells #[.int .i64 hin, .int .i64 warm, .int .i64 drain, .int .i64 hout] 27)) (w.heap.size + 1) (c0) (c1) (c2) (c3) (.int .i64 hin) (.int .i64 hout) (.int .i64 warm) (.int .i64 drain) (c8) (c9) (c10) (c11) (c12) (c13) (c14) := ⟨by simp [go_sem], by simp [go_sem], by simp [go_sem], by simp [go_sem], by simp [go_sem], by simp [go_sem], by simp [go_sem], by simp [go_sem], by simp [go_sem], by simp [go_sem], by simp [go_sem], by simp [go_sem], by simp [go_sem], by simp [go_sem], by simp [go_sem]⟩
  have hW : Hid (∀ i, i < 4 → (((w.alloc (.cells #[k0, k1, k2, k3, .int .u8 p, .int .i64 since, k6, .bool comp] 23)).alloc (.cells #[c0, c1, c2, c3, .int .i64 hin, .int .i64 hout, .int .i64 warm, .int .i64 drain, c8, c9, c10, c11, c12, c13, c14] 26)).alloc (.cells #[.int .i64 hin, .int .i64 warm, .int .i64 drain, .int .i64 hout] 27)).cell? ⟨w.heap.size + 1 + 1, i, none⟩ = some (.int .i64 (wait4 hin warm drain hout i))) := Lib.hid (by
    intro i hi
    obtain rfl | rfl | rfl | rfl : i = 0 ∨ i = 1 ∨ i = 2 ∨ i = 3 := by omega
    all_goals simp [go_sem, wait4])
  have hsz : (((w.alloc (.cells #[k0, k1, k2, k3, .int .u8 p, .int .i64 since, k6, .bool comp] 23)).alloc (.cells #[c0, c1, c2, c3, .int .i64 hin, .int .i64 hout, .int .i64 warm, .int .i64 drain, c8, c9, c10, c11, c12, c13, c14] 26)).alloc (.cells #[.int .i64 hin, .int .i64 warm, .int .i64 drain, .int .i64 hout] 27)).heap.size = w.heap.size + 3 := by simp
  generalize ((w.alloc (.cells #[k0, k1, k2, k3, .int .u8 p, .int .i64 since, k6, .bool comp] 23)).alloc (.cells #[c0, c1, c2, c3, .int .i64 hin, .int .i64 hout, .int .i64 warm, .int .i64 drain, c8, c9, c10, c11, c12, c13, c14] 26)).alloc (.cells #[.int .i64 hin, .int .i64 warm, .int .i64 drain, .int .i64 hout] 27) = wa at *
  have h1 := h0.next hB
  have HS := Lib.hid hsz
  clear h0 hsz hB
  go_loop [10] (fun s10 => ∃ i : Nat, i ≤ 4 ∧ s10 = .int .i64 i ∧ Hid (∀ j, j < i → InRange (wait4 hin warm drain hout j))) (fun s10 => 4 - (intOf s10).toNat)
  case atStart => exact ⟨0, by omega, rfl, Lib.hid (by intro j hj; omega)⟩
  case round =>
    obtain ⟨i, hi, rfl, hin'⟩ := hrel
    by_cases hlt : i < 4
    · have hc := hW.out i hlt
      have hlt' : (i : Int) < 4 := by omega
      by_cases hx : InRange (wait4 hin warm drain hout i)
      · skip
        obtain ⟨x0, x1⟩ := hx
        have g1 : decide (wait4 hin warm drain hout i < 0) = false := by simp; omega
        have g2 : decide (20 < wait4 hin warm drain hout i) = false := by simp; omega
        go_wp2
        go_round
        case rel =>
          refine ⟨i + 1, by omega, by go_num, Lib.hid (fun j hj => ?_)⟩
          by_cases hji : j = i
          · subst hji; exact ⟨x0, x1⟩
          · exact hin'.out j (by omega)
        case measure => simp [intOf]; omega
      · by_cases hx0 : wait4 hin warm drain hout i < 0
        · have g1 : decide (wait4 hin warm drain hout i < 0) = true := by simpa using hx0
          clear hx hx0
          go_wp2_with fail
          refine (wakes_c h1).mono ?_
          rintro e w9 ⟨rfl, h9⟩
          go_wp2
          go_ret
          exact ⟨rfl, h9.below⟩
        · have g1 : decide (wait4 hin warm drain hout i < 0) = false := by simpa using hx0
          have g2 : decide (20 < wait4 hin warm drain hout i) = true := by unfold InRange at hx; simp; omega
          clear hx hx0
          go_wp2_with fail
          refine (wakes_c h1).mono ?_
          rintro e w9 ⟨rfl, h9⟩
          go_wp2
          go_ret
          exact ⟨rfl, h9.below⟩
    · obtain rfl : i = 4 := by omega
      exact absurd hin'.out hr

set_option maxRecDepth 100000 in
set_option maxHeartbeats 8000000 in
/-- A time is out of its range. -/
theorem due_bad0 (k0 k1 k2 k3 k6 : Value) (p since : Int) (comp : Bool) (c0 c1 c2 c3 : Value) (hin hout warm drain : Int) (c8 c9 c10 c11 c12 c13 c14 : Value) (now later : Int) (hr : ∀ i, i < 4 → InRange (wait4 hin warm drain hout i)) (g10 : decide (now < 0) = true) (w : World) (hw : 2 ≤ w.heap.size) (hT : Tables w) :
    Calls Tryd.prog 3 #[.agg #[k0, k1, k2, k3, .int .u8 p, .int .i64 since, k6, .bool comp], .agg #[c0, c1, c2, c3, .int .i64 hin, .int .i64 hout, .int .i64 warm, .int .i64 drain, c8, c9, c10, c11, c12, c13, c14], .int .i64 now, .int .i64 later] w fun e w' => e = .returned (.bool true) ∧ Below w.heap.size w w' := by
  have h0 : St w w := ⟨Below.refl _ _, hT, hw⟩
  clear hw hT
  go_enter Tryd.func3, Tryd.ntmps3
  go_wp2_with fail
  have hB : Below w.heap.size w (((w.alloc (.cells #[k0, k1, k2, k3, .int .u8 p, .int .i64 since, k6, .bool comp] 23)).alloc (.cells #[c0, c1, c2, c3, .int .i64 hin, .int .i64 hout, .int .i64 warm, .int .i64 drain, c8, c9, c10, c11, c12, c13, c14] 26)).alloc (.cells #[.int .i64 hin, .int .i64 warm, .int .i64 drain, .int .i64 hout] 27)) := (((Below.refl _ _).alloc (Nat.le_refl _) _).alloc (by simp) _).alloc (by simp; omega) _
  have hK : KBox (((w.alloc (.cells #[k0, k1, k2, k3, .int .u8 p, .int .i64 since, k6, .bool comp] 23)).alloc (.cells #[c0, c1, c2, c3, .int .i64 hin, .int .i64 hout, .int .i64 warm, .int .i64 drain, c8, c9, c10, c11, c12, c13, c14] 26)).alloc (.cells #[.int .i64 hin, .int .i64 warm, .int .i64 drain, .int .i64 hout] 27)) w.heap.size (k0) (k1) (k2) (k3) (.int .u8 p) (.int .i64 since) (k6) (.bool comp) := ⟨by simp [go_sem], by simp [go_sem], by simp [go_sem], by simp [go_sem], by simp [go_sem], by simp [go_sem], by simp [go_sem], by simp [go_sem]⟩
  have hC : CBox (((w.alloc (.cells #[k0, k1, k2, k3, .int .u8 p, .int .i64 since, k6, .bool comp] 23)).alloc (.cells #[c0, c1, c2, c3, .int .i64 hin, .int .i64 hout, .int .i64 warm, .int .i64 drain, c8, c9, c10, c11, c12, c13, c14] 26)).alloc (.cells #[.int .i64 hin, .int .i64 warm, .int .i64 drain, .int .i64 hout] 27)) (w.heap.size + 1) (c0) (c1) (c2) (c3) (.int .i64 hin) (.int .i64 hout) (.int .i64 warm) (.int .i64 drain) (c8) (c9) (c10) (c11) (c12) (c13) (c14) := ⟨by simp [go_sem], by simp [go_sem], by simp [go_sem], by simp [go_sem], by simp [go_sem], by simp [go_sem], by simp [go_sem], by simp [go_sem], by simp [go_sem], by simp [go_sem], by simp [go_sem], by simp [go_sem], by simp [go_sem], by simp [go_sem], by simp [go_sem]⟩
  have hW : Hid (∀ i, i < 4 → (((w.alloc (.cells #[k0, k1, k2, k3, .int .u8 p, .int .i64 since, k6, .bool comp] 23)).alloc (.cells #[c0, c1, c2, c3, .int .i64 hin, .int .i64 hout, .int .i64 warm, .int .i64 drain, c8, c9, c10, c11, c12, c13, c14] 26)).alloc (.cells #[.int .i64 hin, .int .i64 warm, .int .i64 drain, .int .i64 hout] 27)).cell? ⟨w.heap.size + 1 + 1, i, none⟩ = some (.int .i64 (wait4 hin warm drain hout i))) := Lib.hid (by
    intro i hi
    obtain rfl | rfl | rfl | rfl : i = 0 ∨ i = 1 ∨ i = 2 ∨ i = 3 := by omega
    all_goals simp [go_sem, wait4])
  have hsz : (((w.alloc (.cells #[k0, k1, k2, k3, .int .u8 p, .int .i64 since, k6, .bool comp] 23)).alloc (.cells #[c0, c1, c2, c3, .int .i64 hin, .int .i64 hout, .int .i64 warm, .int .i64 drain, c8, c9, c10, c11, c12, c13, c14] 26)).alloc (.cells #[.int .i64 hin, .int .i64 warm, .int .i64 drain, .int .i64 hout] 27)).heap.size = w.heap.size + 3 := by simp
  generalize ((w.alloc (.cells #[k0, k1, k2, k3, .int .u8 p, .int .i64 since, k6, .bool comp] 23)).alloc (.cells #[c0, c1, c2, c3, .int .i64 hin, .int .i64 hout, .int .i64 warm, .int .i64 drain, c8, c9, c10, c11, c12, c13, c14] 26)).alloc (.cells #[.int .i64 hin, .int .i64 warm, .int .i64 drain, .int .i64 hout] 27) = wa at *
  have h1 := h0.next hB
  have HS := Lib.hid hsz
  clear h0 hsz hB
  go_loop [10] (fun s10 => ∃ i : Nat, i ≤ 4 ∧ s10 = .int .i64 i ∧ Hid (∀ j, j < i → InRange (wait4 hin warm drain hout j))) (fun s10 => 4 - (intOf s10).toNat)
  case atStart => exact ⟨0, by omega, rfl, Lib.hid (by intro j hj; omega)⟩
  case round =>
    obtain ⟨i, hi, rfl, hin'⟩ := hrel
    by_cases hlt : i < 4
    · have hc := hW.out i hlt
      have hlt' : (i : Int) < 4 := by omega
      have hx := hr i hlt
      obtain ⟨x0, x1⟩ := hx
      have g1 : decide (wait4 hin warm drain hout i < 0) = false := by simp; omega
      have g2 : decide (20 < wait4 hin warm drain hout i) = false := by simp; omega
      go_wp2
      go_round
      case rel =>
        refine ⟨i + 1, by omega, by go_num, Lib.hid (fun j hj => ?_)⟩
        by_cases hji : j = i
        · subst hji; exact ⟨x0, x1⟩
        · exact hin'.out j (by omega)
      case measure => simp [intOf]; omega
    · obtain rfl : i = 4 := by omega
      clear hin' hi hlt
      have q5 := hK.f5
      go_wp2_with fail
      refine (wakes_c h1).mono ?_
      rintro e w9 ⟨rfl, h9⟩
      go_wp2
      go_ret
      exact ⟨rfl, h9.below⟩

set_option maxRecDepth 100000 in
set_option maxHeartbeats 8000000 in
/-- A time is out of its range. -/
theorem due_bad1 (k0 k1 k2 k3 k6 : Value) (p since : Int) (comp : Bool) (c0 c1 c2 c3 : Value) (hin hout warm drain : Int) (c8 c9 c10 c11 c12 c13 c14 : Value) (now later : Int) (hr : ∀ i, i < 4 → InRange (wait4 hin warm drain hout i)) (g10 : decide (now < 0) = false) (g11 : decide (later < now) = true) (w : World) (hw : 2 ≤ w.heap.size) (hT : Tables w) :
    Calls Tryd.prog 3 #[.agg #[k0, k1, k2, k3, .int .u8 p, .int .i64 since, k6, .bool comp], .agg #[c0, c1, c2, c3, .int .i64 hin, .int .i64 hout, .int .i64 warm, .int .i64 drain, c8, c9, c10, c11, c12, c13, c14], .int .i64 now, .int .i64 later] w fun e w' => e = .returned (.bool true) ∧ Below w.heap.size w w' := by
  have h0 : St w w := ⟨Below.refl _ _, hT, hw⟩
  clear hw hT
  go_enter Tryd.func3, Tryd.ntmps3
  go_wp2_with fail
  have hB : Below w.heap.size w (((w.alloc (.cells #[k0, k1, k2, k3, .int .u8 p, .int .i64 since, k6, .bool comp] 23)).alloc (.cells #[c0, c1, c2, c3, .int .i64 hin, .int .i64 hout, .int .i64 warm, .int .i64 drain, c8, c9, c10, c11, c12, c13, c14] 26)).alloc (.cells #[.int .i64 hin, .int .i64 warm, .int .i64 drain, .int .i64 hout] 27)) := (((Below.refl _ _).alloc (Nat.le_refl _) _).alloc (by simp) _).alloc (by simp; omega) _
  have hK : KBox (((w.alloc (.cells #[k0, k1, k2, k3, .int .u8 p, .int .i64 since, k6, .bool comp] 23)).alloc (.cells #[c0, c1, c2, c3, .int .i64 hin, .int .i64 hout, .int .i64 warm, .int .i64 drain, c8, c9, c10, c11, c12, c13, c14] 26)).alloc (.cells #[.int .i64 hin, .int .i64 warm, .int .i64 drain, .int .i64 hout] 27)) w.heap.size (k0) (k1) (k2) (k3) (.int .u8 p) (.int .i64 since) (k6) (.bool comp) := ⟨by simp [go_sem], by simp [go_sem], by simp [go_sem], by simp [go_sem], by simp [go_sem], by simp [go_sem], by simp [go_sem], by simp [go_sem]⟩
  have hC : CBox (((w.alloc (.cells #[k0, k1, k2, k3, .int .u8 p, .int .i64 since, k6, .bool comp] 23)).alloc (.cells #[c0, c1, c2, c3, .int .i64 hin, .int .i64 hout, .int .i64 warm, .int .i64 drain, c8, c9, c10, c11, c12, c13, c14] 26)).alloc (.cells #[.int .i64 hin, .int .i64 warm, .int .i64 drain, .int .i64 hout] 27)) (w.heap.size + 1) (c0) (c1) (c2) (c3) (.int .i64 hin) (.int .i64 hout) (.int .i64 warm) (.int .i64 drain) (c8) (c9) (c10) (c11) (c12) (c13) (c14) := ⟨by simp [go_sem], by simp [go_sem], by simp [go_sem], by simp [go_sem], by simp [go_sem], by simp [go_sem], by simp [go_sem], by simp [go_sem], by simp [go_sem], by simp [go_sem], by simp [go_sem], by simp [go_sem], by simp [go_sem], by simp [go_sem], by simp [go_sem]⟩
  have hW : Hid (∀ i, i < 4 → (((w.alloc (.cells #[k0, k1, k2, k3, .int .u8 p, .int .i64 since, k6, .bool comp] 23)).alloc (.cells #[c0, c1, c2, c3, .int .i64 hin, .int .i64 hout, .int .i64 warm, .int .i64 drain, c8, c9, c10, c11, c12, c13, c14] 26)).alloc (.cells #[.int .i64 hin, .int .i64 warm, .int .i64 drain, .int .i64 hout] 27)).cell? ⟨w.heap.size + 1 + 1, i, none⟩ = some (.int .i64 (wait4 hin warm drain hout i))) := Lib.hid (by
    intro i hi
    obtain rfl | rfl | rfl | rfl : i = 0 ∨ i = 1 ∨ i = 2 ∨ i = 3 := by omega
    all_goals simp [go_sem, wait4])
  have hsz : (((w.alloc (.cells #[k0, k1, k2, k3, .int .u8 p, .int .i64 since, k6, .bool comp] 23)).alloc (.cells #[c0, c1, c2, c3, .int .i64 hin, .int .i64 hout, .int .i64 warm, .int .i64 drain, c8, c9, c10, c11, c12, c13, c14] 26)).alloc (.cells #[.int .i64 hin, .int .i64 warm, .int .i64 drain, .int .i64 hout] 27)).heap.size = w.heap.size + 3 := by simp
  generalize ((w.alloc (.cells #[k0, k1, k2, k3, .int .u8 p, .int .i64 since, k6, .bool comp] 23)).alloc (.cells #[c0, c1, c2, c3, .int .i64 hin, .int .i64 hout, .int .i64 warm, .int .i64 drain, c8, c9, c10, c11, c12, c13, c14] 26)).alloc (.cells #[.int .i64 hin, .int .i64 warm, .int .i64 drain, .int .i64 hout] 27) = wa at *
  have h1 := h0.next hB
  have HS := Lib.hid hsz
  clear h0 hsz hB
  go_loop [10] (fun s10 => ∃ i : Nat, i ≤ 4 ∧ s10 = .int .i64 i ∧ Hid (∀ j, j < i → InRange (wait4 hin warm drain hout j))) (fun s10 => 4 - (intOf s10).toNat)
  case atStart => exact ⟨0, by omega, rfl, Lib.hid (by intro j hj; omega)⟩
  case round =>
    obtain ⟨i, hi, rfl, hin'⟩ := hrel
    by_cases hlt : i < 4
    · have hc := hW.out i hlt
      have hlt' : (i : Int) < 4 := by omega
      have hx := hr i hlt
      obtain ⟨x0, x1⟩ := hx
      have g1 : decide (wait4 hin warm drain hout i < 0) = false := by simp; omega
      have g2 : decide (20 < wait4 hin warm drain hout i) = false := by simp; omega
      go_wp2
      go_round
      case rel =>
        refine ⟨i + 1, by omega, by go_num, Lib.hid (fun j hj => ?_)⟩
        by_cases hji : j = i
        · subst hji; exact ⟨x0, x1⟩
        · exact hin'.out j (by omega)
      case measure => simp [intOf]; omega
    · obtain rfl : i = 4 := by omega
      clear hin' hi hlt
      have q5 := hK.f5
      go_wp2_with fail
      refine (wakes_c h1).mono ?_
      rintro e w9 ⟨rfl, h9⟩
      go_wp2
      go_ret
      exact ⟨rfl, h9.below⟩

set_option maxRecDepth 100000 in
set_option maxHeartbeats 8000000 in
/-- A time is out of its range. -/
theorem due_bad2 (k0 k1 k2 k3 k6 : Value) (p since : Int) (comp : Bool) (c0 c1 c2 c3 : Value) (hin hout warm drain : Int) (c8 c9 c10 c11 c12 c13 c14 : Value) (now later : Int) (hr : ∀ i, i < 4 → InRange (wait4 hin warm drain hout i)) (g10 : decide (now < 0) = false) (g11 : decide (later < now) = false) (g12 : decide (1099511627776 < later) = true) (w : World) (hw : 2 ≤ w.heap.size) (hT : Tables w) :
    Calls Tryd.prog 3 #[.agg #[k0, k1, k2, k3, .int .u8 p, .int .i64 since, k6, .bool comp], .agg #[c0, c1, c2, c3, .int .i64 hin, .int .i64 hout, .int .i64 warm, .int .i64 drain, c8, c9, c10, c11, c12, c13, c14], .int .i64 now, .int .i64 later] w fun e w' => e = .returned (.bool true) ∧ Below w.heap.size w w' := by
  have h0 : St w w := ⟨Below.refl _ _, hT, hw⟩
  clear hw hT
  go_enter Tryd.func3, Tryd.ntmps3
  go_wp2_with fail
  have hB : Below w.heap.size w (((w.alloc (.cells #[k0, k1, k2, k3, .int .u8 p, .int .i64 since, k6, .bool comp] 23)).alloc (.cells #[c0, c1, c2, c3, .int .i64 hin, .int .i64 hout, .int .i64 warm, .int .i64 drain, c8, c9, c10, c11, c12, c13, c14] 26)).alloc (.cells #[.int .i64 hin, .int .i64 warm, .int .i64 drain, .int .i64 hout] 27)) := (((Below.refl _ _).alloc (Nat.le_refl _) _).alloc (by simp) _).alloc (by simp; omega) _
  have hK : KBox (((w.alloc (.cells #[k0, k1, k2, k3, .int .u8 p, .int .i64 since, k6, .bool comp] 23)).alloc (.cells #[c0, c1, c2, c3, .int .i64 hin, .int .i64 hout, .int .i64 warm, .int .i64 drain, c8, c9, c10, c11, c12, c13, c14] 26)).alloc (.cells #[.int .i64 hin, .int .i64 warm, .int .i64 drain, .int .i64 hout] 27)) w.heap.size (k0) (k1) (k2) (k3) (.int .u8 p) (.int .i64 since) (k6) (.bool comp) := ⟨by simp [go_sem], by simp [go_sem], by simp [go_sem], by simp [go_sem], by simp [go_sem], by simp [go_sem], by simp [go_sem], by simp [go_sem]⟩
  have hC : CBox (((w.alloc (.cells #[k0, k1, k2, k3, .int .u8 p, .int .i64 since, k6, .bool comp] 23)).alloc (.cells #[c0, c1, c2, c3, .int .i64 hin, .int .i64 hout, .int .i64 warm, .int .i64 drain, c8, c9, c10, c11, c12, c13, c14] 26)).alloc (.cells #[.int .i64 hin, .int .i64 warm, .int .i64 drain, .int .i64 hout] 27)) (w.heap.size + 1) (c0) (c1) (c2) (c3) (.int .i64 hin) (.int .i64 hout) (.int .i64 warm) (.int .i64 drain) (c8) (c9) (c10) (c11) (c12) (c13) (c14) := ⟨by simp [go_sem], by simp [go_sem], by simp [go_sem], by simp [go_sem], by simp [go_sem], by simp [go_sem], by simp [go_sem], by simp [go_sem], by simp [go_sem], by simp [go_sem], by simp [go_sem], by simp [go_sem], by simp [go_sem], by simp [go_sem], by simp [go_sem]⟩
  have hW : Hid (∀ i, i < 4 → (((w.alloc (.cells #[k0, k1, k2, k3, .int .u8 p, .int .i64 since, k6, .bool comp] 23)).alloc (.cells #[c0, c1, c2, c3, .int .i64 hin, .int .i64 hout, .int .i64 warm, .int .i64 drain, c8, c9, c10, c11, c12, c13, c14] 26)).alloc (.cells #[.int .i64 hin, .int .i64 warm, .int .i64 drain, .int .i64 hout] 27)).cell? ⟨w.heap.size + 1 + 1, i, none⟩ = some (.int .i64 (wait4 hin warm drain hout i))) := Lib.hid (by
    intro i hi
    obtain rfl | rfl | rfl | rfl : i = 0 ∨ i = 1 ∨ i = 2 ∨ i = 3 := by omega
    all_goals simp [go_sem, wait4])
  have hsz : (((w.alloc (.cells #[k0, k1, k2, k3, .int .u8 p, .int .i64 since, k6, .bool comp] 23)).alloc (.cells #[c0, c1, c2, c3, .int .i64 hin, .int .i64 hout, .int .i64 warm, .int .i64 drain, c8, c9, c10, c11, c12, c13, c14] 26)).alloc (.cells #[.int .i64 hin, .int .i64 warm, .int .i64 drain, .int .i64 hout] 27)).heap.size = w.heap.size + 3 := by simp
  generalize ((w.alloc (.cells #[k0, k1, k2, k3, .int .u8 p, .int .i64 since, k6, .bool comp] 23)).alloc (.cells #[c0, c1, c2, c3, .int .i64 hin, .int .i64 hout, .int .i64 warm, .int .i64 drain, c8, c9, c10, c11, c12, c13, c14] 26)).alloc (.cells #[.int .i64 hin, .int .i64 warm, .int .i64 drain, .int .i64 hout] 27) = wa at *
  have h1 := h0.next hB
  have HS := Lib.hid hsz
  clear h0 hsz hB
  go_loop [10] (fun s10 => ∃ i : Nat, i ≤ 4 ∧ s10 = .int .i64 i ∧ Hid (∀ j, j < i → InRange (wait4 hin warm drain hout j))) (fun s10 => 4 - (intOf s10).toNat)
  case atStart => exact ⟨0, by omega, rfl, Lib.hid (by intro j hj; omega)⟩
  case round =>
    obtain ⟨i, hi, rfl, hin'⟩ := hrel
    by_cases hlt : i < 4
    · have hc := hW.out i hlt
      have hlt' : (i : Int) < 4 := by omega
      have hx := hr i hlt
      obtain ⟨x0, x1⟩ := hx
      have g1 : decide (wait4 hin warm drain hout i < 0) = false := by simp; omega
      have g2 : decide (20 < wait4 hin warm drain hout i) = false := by simp; omega
      go_wp2
      go_round
      case rel =>
        refine ⟨i + 1, by omega, by go_num, Lib.hid (fun j hj => ?_)⟩
        by_cases hji : j = i
        · subst hji; exact ⟨x0, x1⟩
        · exact hin'.out j (by omega)
      case measure => simp [intOf]; omega
    · obtain rfl : i = 4 := by omega
      clear hin' hi hlt
      have q5 := hK.f5
      go_wp2_with fail
      refine (wakes_c h1).mono ?_
      rintro e w9 ⟨rfl, h9⟩
      go_wp2
      go_ret
      exact ⟨rfl, h9.below⟩

set_option maxRecDepth 100000 in
set_option maxHeartbeats 8000000 in
/-- A time is out of its range. -/
theorem due_bad3 (k0 k1 k2 k3 k6 : Value) (p since : Int) (comp : Bool) (c0 c1 c2 c3 : Value) (hin hout warm drain : Int) (c8 c9 c10 c11 c12 c13 c14 : Value) (now later : Int) (hr : ∀ i, i < 4 → InRange (wait4 hin warm drain hout i)) (g10 : decide (now < 0) = false) (g11 : decide (later < now) = false) (g12 : decide (1099511627776 < later) = false) (g13 : decide (since < 0) = true) (w : World) (hw : 2 ≤ w.heap.size) (hT : Tables w) :
    Calls Tryd.prog 3 #[.agg #[k0, k1, k2, k3, .int .u8 p, .int .i64 since, k6, .bool comp], .agg #[c0, c1, c2, c3, .int .i64 hin, .int .i64 hout, .int .i64 warm, .int .i64 drain, c8, c9, c10, c11, c12, c13, c14], .int .i64 now, .int .i64 later] w fun e w' => e = .returned (.bool true) ∧ Below w.heap.size w w' := by
  have h0 : St w w := ⟨Below.refl _ _, hT, hw⟩
  clear hw hT
  go_enter Tryd.func3, Tryd.ntmps3
  go_wp2_with fail
  have hB : Below w.heap.size w (((w.alloc (.cells #[k0, k1, k2, k3, .int .u8 p, .int .i64 since, k6, .bool comp] 23)).alloc (.cells #[c0, c1, c2, c3, .int .i64 hin, .int .i64 hout, .int .i64 warm, .int .i64 drain, c8, c9, c10, c11, c12, c13, c14] 26)).alloc (.cells #[.int .i64 hin, .int .i64 warm, .int .i64 drain, .int .i64 hout] 27)) := (((Below.refl _ _).alloc (Nat.le_refl _) _).alloc (by simp) _).alloc (by simp; omega) _
  have hK : KBox (((w.alloc (.cells #[k0, k1, k2, k3, .int .u8 p, .int .i64 since, k6, .bool comp] 23)).alloc (.cells #[c0, c1, c2, c3, .int .i64 hin, .int .i64 hout, .int .i64 warm, .int .i64 drain, c8, c9, c10, c11, c12, c13, c14] 26)).alloc (.cells #[.int .i64 hin, .int .i64 warm, .int .i64 drain, .int .i64 hout] 27)) w.heap.size (k0) (k1) (k2) (k3) (.int .u8 p) (.int .i64 since) (k6) (.bool comp) := ⟨by simp [go_sem], by simp [go_sem], by simp [go_sem], by simp [go_sem], by simp [go_sem], by simp [go_sem], by simp [go_sem], by simp [go_sem]⟩
  have hC : CBox (((w.alloc (.cells #[k0, k1, k2, k3, .int .u8 p, .int .i64 since, k6, .bool comp] 23)).alloc (.cells #[c0, c1, c2, c3, .int .i64 hin, .int .i64 hout, .int .i64 warm, .int .i64 drain, c8, c9, c10, c11, c12, c13, c14] 26)).alloc (.cells #[.int .i64 hin, .int .i64 warm, .int .i64 drain, .int .i64 hout] 27)) (w.heap.size + 1) (c0) (c1) (c2) (c3) (.int .i64 hin) (.int .i64 hout) (.int .i64 warm) (.int .i64 drain) (c8) (c9) (c10) (c11) (c12) (c13) (c14) := ⟨by simp [go_sem], by simp [go_sem], by simp [go_sem], by simp [go_sem], by simp [go_sem], by simp [go_sem], by simp [go_sem], by simp [go_sem], by simp [go_sem], by simp [go_sem], by simp [go_sem], by simp [go_sem], by simp [go_sem], by simp [go_sem], by simp [go_sem]⟩
  have hW : Hid (∀ i, i < 4 → (((w.alloc (.cells #[k0, k1, k2, k3, .int .u8 p, .int .i64 since, k6, .bool comp] 23)).alloc (.cells #[c0, c1, c2, c3, .int .i64 hin, .int .i64 hout, .int .i64 warm, .int .i64 drain, c8, c9, c10, c11, c12, c13, c14] 26)).alloc (.cells #[.int .i64 hin, .int .i64 warm, .int .i64 drain, .int .i64 hout] 27)).cell? ⟨w.heap.size + 1 + 1, i, none⟩ = some (.int .i64 (wait4 hin warm drain hout i))) := Lib.hid (by
    intro i hi
    obtain rfl | rfl | rfl | rfl : i = 0 ∨ i = 1 ∨ i = 2 ∨ i = 3 := by omega
    all_goals simp [go_sem, wait4])
  have hsz : (((w.alloc (.cells #[k0, k1, k2, k3, .int .u8 p, .int .i64 since, k6, .bool comp] 23)).alloc (.cells #[c0, c1, c2, c3, .int .i64 hin, .int .i64 hout, .int .i64 warm, .int .i64 drain, c8, c9, c10, c11, c12, c13, c14] 26)).alloc (.cells #[.int .i64 hin, .int .i64 warm, .int .i64 drain, .int .i64 hout] 27)).heap.size = w.heap.size + 3 := by simp
  generalize ((w.alloc (.cells #[k0, k1, k2, k3, .int .u8 p, .int .i64 since, k6, .bool comp] 23)).alloc (.cells #[c0, c1, c2, c3, .int .i64 hin, .int .i64 hout, .int .i64 warm, .int .i64 drain, c8, c9, c10, c11, c12, c13, c14] 26)).alloc (.cells #[.int .i64 hin, .int .i64 warm, .int .i64 drain, .int .i64 hout] 27) = wa at *
  have h1 := h0.next hB
  have HS := Lib.hid hsz
  clear h0 hsz hB
  go_loop [10] (fun s10 => ∃ i : Nat, i ≤ 4 ∧ s10 = .int .i64 i ∧ Hid (∀ j, j < i → InRange (wait4 hin warm drain hout j))) (fun s10 => 4 - (intOf s10).toNat)
  case atStart => exact ⟨0, by omega, rfl, Lib.hid (by intro j hj; omega)⟩
  case round =>
    obtain ⟨i, hi, rfl, hin'⟩ := hrel
    by_cases hlt : i < 4
    · have hc := hW.out i hlt
      have hlt' : (i : Int) < 4 := by omega
      have hx := hr i hlt
      obtain ⟨x0, x1⟩ := hx
      have g1 : decide (wait4 hin warm drain hout i < 0) = false := by simp; omega
      have g2 : decide (20 < wait4 hin warm drain hout i) = false := by simp; omega
      go_wp2
      go_round
      case rel =>
        refine ⟨i + 1, by omega, by go_num, Lib.hid (fun j hj => ?_)⟩
        by_cases hji : j = i
        · subst hji; exact ⟨x0, x1⟩
        · exact hin'.out j (by omega)
      case measure => simp [intOf]; omega
    · obtain rfl : i = 4 := by omega
      clear hin' hi hlt
      have q5 := hK.f5
      go_wp2_with fail
      refine (wakes_c h1).mono ?_
      rintro e w9 ⟨rfl, h9⟩
      go_wp2
      go_ret
      exact ⟨rfl, h9.below⟩

set_option maxRecDepth 100000 in
set_option maxHeartbeats 8000000 in
/-- A time is out of its range. -/
theorem due_bad4 (k0 k1 k2 k3 k6 : Value) (p since : Int) (comp : Bool) (c0 c1 c2 c3 : Value) (hin hout warm drain : Int) (c8 c9 c10 c11 c12 c13 c14 : Value) (now later : Int) (hr : ∀ i, i < 4 → InRange (wait4 hin warm drain hout i)) (g10 : decide (now < 0) = false) (g11 : decide (later < now) = false) (g12 : decide (1099511627776 < later) = false) (g13 : decide (since < 0) = false) (g14 : decide (now < since) = true) (w : World) (hw : 2 ≤ w.heap.size) (hT : Tables w) :
    Calls Tryd.prog 3 #[.agg #[k0, k1, k2, k3, .int .u8 p, .int .i64 since, k6, .bool comp], .agg #[c0, c1, c2, c3, .int .i64 hin, .int .i64 hout, .int .i64 warm, .int .i64 drain, c8, c9, c10, c11, c12, c13, c14], .int .i64 now, .int .i64 later] w fun e w' => e = .returned (.bool true) ∧ Below w.heap.size w w' := by
  have h0 : St w w := ⟨Below.refl _ _, hT, hw⟩
  clear hw hT
  go_enter Tryd.func3, Tryd.ntmps3
  go_wp2_with fail
  have hB : Below w.heap.size w (((w.alloc (.cells #[k0, k1, k2, k3, .int .u8 p, .int .i64 since, k6, .bool comp] 23)).alloc (.cells #[c0, c1, c2, c3, .int .i64 hin, .int .i64 hout, .int .i64 warm, .int .i64 drain, c8, c9, c10, c11, c12, c13, c14] 26)).alloc (.cells #[.int .i64 hin, .int .i64 warm, .int .i64 drain, .int .i64 hout] 27)) := (((Below.refl _ _).alloc (Nat.le_refl _) _).alloc (by simp) _).alloc (by simp; omega) _
  have hK : KBox (((w.alloc (.cells #[k0, k1, k2, k3, .int .u8 p, .int .i64 since, k6, .bool comp] 23)).alloc (.cells #[c0, c1, c2, c3, .int .i64 hin, .int .i64 hout, .int .i64 warm, .int .i64 drain, c8, c9, c10, c11, c12, c13, c14] 26)).alloc (.cells #[.int .i64 hin, .int .i64 warm, .int .i64 drain, .int .i64 hout] 27)) w.heap.size (k0) (k1) (k2) (k3) (.int .u8 p) (.int .i64 since) (k6) (.bool comp) := ⟨by simp [go_sem], by simp [go_sem], by simp [go_sem], by simp [go_sem], by simp [go_sem], by simp [go_sem], by simp [go_sem], by simp [go_sem]⟩
  have hC : CBox (((w.alloc (.cells #[k0, k1, k2, k3, .int .u8 p, .int .i64 since, k6, .bool comp] 23)).alloc (.cells #[c0, c1, c2, c3, .int .i64 hin, .int .i64 hout, .int .i64 warm, .int .i64 drain, c8, c9, c10, c11, c12, c13, c14] 26)).alloc (.cells #[.int .i64 hin, .int .i64 warm, .int .i64 drain, .int .i64 hout] 27)) (w.heap.size + 1) (c0) (c1) (c2) (c3) (.int .i64 hin) (.int .i64 hout) (.int .i64 warm) (.int .i64 drain) (c8) (c9) (c10) (c11) (c12) (c13) (c14) := ⟨by simp [go_sem], by simp [go_sem], by simp [go_sem], by simp [go_sem], by simp [go_sem], by simp [go_sem], by simp [go_sem], by simp [go_sem], by simp [go_sem], by simp [go_sem], by simp [go_sem], by simp [go_sem], by simp [go_sem], by simp [go_sem], by simp [go_sem]⟩
  have hW : Hid (∀ i, i < 4 → (((w.alloc (.cells #[k0, k1, k2, k3, .int .u8 p, .int .i64 since, k6, .bool comp] 23)).alloc (.cells #[c0, c1, c2, c3, .int .i64 hin, .int .i64 hout, .int .i64 warm, .int .i64 drain, c8, c9, c10, c11, c12, c13, c14] 26)).alloc (.cells #[.int .i64 hin, .int .i64 warm, .int .i64 drain, .int .i64 hout] 27)).cell? ⟨w.heap.size + 1 + 1, i, none⟩ = some (.int .i64 (wait4 hin warm drain hout i))) := Lib.hid (by
    intro i hi
    obtain rfl | rfl | rfl | rfl : i = 0 ∨ i = 1 ∨ i = 2 ∨ i = 3 := by omega
    all_goals simp [go_sem, wait4])
  have hsz : (((w.alloc (.cells #[k0, k1, k2, k3, .int .u8 p, .int .i64 since, k6, .bool comp] 23)).alloc (.cells #[c0, c1, c2, c3, .int .i64 hin, .int .i64 hout, .int .i64 warm, .int .i64 drain, c8, c9, c10, c11, c12, c13, c14] 26)).alloc (.cells #[.int .i64 hin, .int .i64 warm, .int .i64 drain, .int .i64 hout] 27)).heap.size = w.heap.size + 3 := by simp
  generalize ((w.alloc (.cells #[k0, k1, k2, k3, .int .u8 p, .int .i64 since, k6, .bool comp] 23)).alloc (.cells #[c0, c1, c2, c3, .int .i64 hin, .int .i64 hout, .int .i64 warm, .int .i64 drain, c8, c9, c10, c11, c12, c13, c14] 26)).alloc (.cells #[.int .i64 hin, .int .i64 warm, .int .i64 drain, .int .i64 hout] 27) = wa at *
  have h1 := h0.next hB
  have HS := Lib.hid hsz
  clear h0 hsz hB
  go_loop [10] (fun s10 => ∃ i : Nat, i ≤ 4 ∧ s10 = .int .i64 i ∧ Hid (∀ j, j < i → InRange (wait4 hin warm drain hout j))) (fun s10 => 4 - (intOf s10).toNat)
  case atStart => exact ⟨0, by omega, rfl, Lib.hid (by intro j hj; omega)⟩
  case round =>
    obtain ⟨i, hi, rfl, hin'⟩ := hrel
    by_cases hlt : i < 4
    · have hc := hW.out i hlt
      have hlt' : (i : Int) < 4 := by omega
      have hx := hr i hlt
      obtain ⟨x0, x1⟩ := hx
      have g1 : decide (wait4 hin warm drain hout i < 0) = false := by simp; omega
      have g2 : decide (20 < wait4 hin warm drain hout i) = false := by simp; omega
      go_wp2
      go_round
      case rel =>
        refine ⟨i + 1, by omega, by go_num, Lib.hid (fun j hj => ?_)⟩
        by_cases hji : j = i
        · subst hji; exact ⟨x0, x1⟩
        · exact hin'.out j (by omega)
      case measure => simp [intOf]; omega
    · obtain rfl : i = 4 := by omega
      clear hin' hi hlt
      have q5 := hK.f5
      go_wp2_with fail
      refine (wakes_c h1).mono ?_
      rintro e w9 ⟨rfl, h9⟩
      go_wp2
      go_ret
      exact ⟨rfl, h9.below⟩

set_option maxRecDepth 100000 in
set_option maxHeartbeats 8000000 in
/-- A phase that has no wait. -/
theorem due_none (k0 k1 k2 k3 k6 : Value) (p since : Int) (comp : Bool) (c0 c1 c2 c3 : Value) (hin hout warm drain : Int) (c8 c9 c10 c11 c12 c13 c14 : Value) (now later : Int) (hr : ∀ i, i < 4 → InRange (wait4 hin warm drain hout i)) (hp0 : 0 ≤ p) (t0 : 0 ≤ now) (t1 : now ≤ later) (t2 : later ≤ 1099511627776) (t3 : 0 ≤ since) (t4 : since ≤ now) (g10 : decide (now < 0) = false) (g11 : decide (later < now) = false) (g12 : decide (1099511627776 < later) = false) (g13 : decide (since < 0) = false) (g14 : decide (now < since) = false) (e0 : (p == 1) = false) (e1 : (p == 2) = false) (e2 : (p == 6) = false) (e3 : (p == 7) = false) (t : Int) (h ok : Bool) (hl : waitsAt hin warm drain hout p = (t, h, ok))  (hv1 : DueEnd p t (now - since) h ok comp = .tuple #[.int .u8 0, .bool false]) (hv2 : DueEnd p t (later - since) h ok comp = .tuple #[.int .u8 0, .bool false]) (hv3 : DueEnd p t (since + 20 - since) h ok comp = .tuple #[.int .u8 0, .bool false]) (w : World) (hw : 2 ≤ w.heap.size) (hT : Tables w) :
    Calls Tryd.prog 3 #[.agg #[k0, k1, k2, k3, .int .u8 p, .int .i64 since, k6, .bool comp], .agg #[c0, c1, c2, c3, .int .i64 hin, .int .i64 hout, .int .i64 warm, .int .i64 drain, c8, c9, c10, c11, c12, c13, c14], .int .i64 now, .int .i64 later] w fun e w' => e = .returned (.bool true) ∧ Below w.heap.size w w' := by
  have HL := Lib.hid hl
  have HV1 := Lib.hid hv1
  have HV2 := Lib.hid hv2
  have HV3 := Lib.hid hv3
  clear hl hv1 hv2 hv3
  have h0 : St w w := ⟨Below.refl _ _, hT, hw⟩
  clear hw hT
  go_enter Tryd.func3, Tryd.ntmps3
  go_wp2_with fail
  have hB : Below w.heap.size w (((w.alloc (.cells #[k0, k1, k2, k3, .int .u8 p, .int .i64 since, k6, .bool comp] 23)).alloc (.cells #[c0, c1, c2, c3, .int .i64 hin, .int .i64 hout, .int .i64 warm, .int .i64 drain, c8, c9, c10, c11, c12, c13, c14] 26)).alloc (.cells #[.int .i64 hin, .int .i64 warm, .int .i64 drain, .int .i64 hout] 27)) := (((Below.refl _ _).alloc (Nat.le_refl _) _).alloc (by simp) _).alloc (by simp; omega) _
  have hK : KBox (((w.alloc (.cells #[k0, k1, k2, k3, .int .u8 p, .int .i64 since, k6, .bool comp] 23)).alloc (.cells #[c0, c1, c2, c3, .int .i64 hin, .int .i64 hout, .int .i64 warm, .int .i64 drain, c8, c9, c10, c11, c12, c13, c14] 26)).alloc (.cells #[.int .i64 hin, .int .i64 warm, .int .i64 drain, .int .i64 hout] 27)) w.heap.size (k0) (k1) (k2) (k3) (.int .u8 p) (.int .i64 since) (k6) (.bool comp) := ⟨by simp [go_sem], by simp [go_sem], by simp [go_sem], by simp [go_sem], by simp [go_sem], by simp [go_sem], by simp [go_sem], by simp [go_sem]⟩
  have hC : CBox (((w.alloc (.cells #[k0, k1, k2, k3, .int .u8 p, .int .i64 since, k6, .bool comp] 23)).alloc (.cells #[c0, c1, c2, c3, .int .i64 hin, .int .i64 hout, .int .i64 warm, .int .i64 drain, c8, c9, c10, c11, c12, c13, c14] 26)).alloc (.cells #[.int .i64 hin, .int .i64 warm, .int .i64 drain, .int .i64 hout] 27)) (w.heap.size + 1) (c0) (c1) (c2) (c3) (.int .i64 hin) (.int .i64 hout) (.int .i64 warm) (.int .i64 drain) (c8) (c9) (c10) (c11) (c12) (c13) (c14) := ⟨by simp [go_sem], by simp [go_sem], by simp [go_sem], by simp [go_sem], by simp [go_sem], by simp [go_sem], by simp [go_sem], by simp [go_sem], by simp [go_sem], by simp [go_sem], by simp [go_sem], by simp [go_sem], by simp [go_sem], by simp [go_sem], by simp [go_sem]⟩
  have hW : Hid (∀ i, i < 4 → (((w.alloc (.cells #[k0, k1, k2, k3, .int .u8 p, .int .i64 since, k6, .bool comp] 23)).alloc (.cells #[c0, c1, c2, c3, .int .i64 hin, .int .i64 hout, .int .i64 warm, .int .i64 drain, c8, c9, c10, c11, c12, c13, c14] 26)).alloc (.cells #[.int .i64 hin, .int .i64 warm, .int .i64 drain, .int .i64 hout] 27)).cell? ⟨w.heap.size + 1 + 1, i, none⟩ = some (.int .i64 (wait4 hin warm drain hout i))) := Lib.hid (by
    intro i hi
    obtain rfl | rfl | rfl | rfl : i = 0 ∨ i = 1 ∨ i = 2 ∨ i = 3 := by omega
    all_goals simp [go_sem, wait4])
  have hsz : (((w.alloc (.cells #[k0, k1, k2, k3, .int .u8 p, .int .i64 since, k6, .bool comp] 23)).alloc (.cells #[c0, c1, c2, c3, .int .i64 hin, .int .i64 hout, .int .i64 warm, .int .i64 drain, c8, c9, c10, c11, c12, c13, c14] 26)).alloc (.cells #[.int .i64 hin, .int .i64 warm, .int .i64 drain, .int .i64 hout] 27)).heap.size = w.heap.size + 3 := by simp
  generalize ((w.alloc (.cells #[k0, k1, k2, k3, .int .u8 p, .int .i64 since, k6, .bool comp] 23)).alloc (.cells #[c0, c1, c2, c3, .int .i64 hin, .int .i64 hout, .int .i64 warm, .int .i64 drain, c8, c9, c10, c11, c12, c13, c14] 26)).alloc (.cells #[.int .i64 hin, .int .i64 warm, .int .i64 drain, .int .i64 hout] 27) = wa at *
  have h1 := h0.next hB
  have HS := Lib.hid hsz
  clear h0 hsz hB
  go_loop [10] (fun s10 => ∃ i : Nat, i ≤ 4 ∧ s10 = .int .i64 i ∧ Hid (∀ j, j < i → InRange (wait4 hin warm drain hout j))) (fun s10 => 4 - (intOf s10).toNat)
  case atStart => exact ⟨0, by omega, rfl, Lib.hid (by intro j hj; omega)⟩
  case round =>
    obtain ⟨i, hi, rfl, hin'⟩ := hrel
    by_cases hlt : i < 4
    · have hc := hW.out i hlt
      have hlt' : (i : Int) < 4 := by omega
      have hx := hr i hlt
      obtain ⟨x0, x1⟩ := hx
      have g1 : decide (wait4 hin warm drain hout i < 0) = false := by simp; omega
      have g2 : decide (20 < wait4 hin warm drain hout i) = false := by simp; omega
      go_wp2
      go_round
      case rel =>
        refine ⟨i + 1, by omega, by go_num, Lib.hid (fun j hj => ?_)⟩
        by_cases hji : j = i
        · subst hji; exact ⟨x0, x1⟩
        · exact hin'.out j (by omega)
      case measure => simp [intOf]; omega
    · obtain rfl : i = 4 := by omega
      clear hin' hi hlt
      have z1 : w.heap.size + 3 ≤ wa.heap.size := by have := HS.out; omega
      have hK1 := hK
      have hC1 := hC
      clear hK hC HS hW hr
      have q0 := hK1.f0
      have q1 := hK1.f1
      have q2 := hK1.f2
      have q3 := hK1.f3
      have q4 := hK1.f4
      have q5 := hK1.f5
      have q6 := hK1.f6
      have q7 := hK1.f7
      have r0 := hC1.f0
      have r1 := hC1.f1
      have r2 := hC1.f2
      have r3 := hC1.f3
      have r4 := hC1.f4
      have r5 := hC1.f5
      have r6 := hC1.f6
      have r7 := hC1.f7
      have r8 := hC1.f8
      have r9 := hC1.f9
      have r10 := hC1.f10
      have r11 := hC1.f11
      have r12 := hC1.f12
      have r13 := hC1.f13
      have r14 := hC1.f14
      go_wp2_with fail
      refine (due_v _ _ _ _ _ p since comp _ _ _ _ hin hout warm drain _ _ _ _ _ _ _ now (by omega) (by omega) (by omega) (by omega) hp0 t h ok HL.out 0 false HV1.out h1).mono ?_
      rintro e w2 ⟨rfl, hb⟩
      have h2 := h1.next hb
      have hK2 := hK1.below hb (by omega)
      have hC2 := hC1.below hb (by omega)
      have z2 : w.heap.size + 3 ≤ w2.heap.size := by have := hb.size; omega
      clear q0 q1 q2 q3 q4 q5 q6 q7 r0 r1 r2 r3 r4 r5 r6 r7 r8 r9 r10 r11 r12 r13 r14
      clear hb h1 hK1 hC1 z1
      have q0 := hK2.f0
      have q1 := hK2.f1
      have q2 := hK2.f2
      have q3 := hK2.f3
      have q4 := hK2.f4
      have q5 := hK2.f5
      have q6 := hK2.f6
      have q7 := hK2.f7
      have r0 := hC2.f0
      have r1 := hC2.f1
      have r2 := hC2.f2
      have r3 := hC2.f3
      have r4 := hC2.f4
      have r5 := hC2.f5
      have r6 := hC2.f6
      have r7 := hC2.f7
      have r8 := hC2.f8
      have r9 := hC2.f9
      have r10 := hC2.f10
      have r11 := hC2.f11
      have r12 := hC2.f12
      have r13 := hC2.f13
      have r14 := hC2.f14
      go_wp2_with fail
      refine (due_v _ _ _ _ _ p since comp _ _ _ _ hin hout warm drain _ _ _ _ _ _ _ later (by omega) (by omega) (by omega) (by omega) hp0 t h ok HL.out 0 false HV2.out h2).mono ?_
      rintro e w3 ⟨rfl, hb⟩
      have h3 := h2.next hb
      have hK3 := hK2.below hb (by omega)
      have hC3 := hC2.below hb (by omega)
      have z3 : w.heap.size + 3 ≤ w3.heap.size := by have := hb.size; omega
      clear q0 q1 q2 q3 q4 q5 q6 q7 r0 r1 r2 r3 r4 r5 r6 r7 r8 r9 r10 r11 r12 r13 r14
      clear hb h2 hK2 hC2 z2
      have q0 := hK3.f0
      have q1 := hK3.f1
      have q2 := hK3.f2
      have q3 := hK3.f3
      have q4 := hK3.f4
      have q5 := hK3.f5
      have q6 := hK3.f6
      have q7 := hK3.f7
      have r0 := hC3.f0
      have r1 := hC3.f1
      have r2 := hC3.f2
      have r3 := hC3.f3
      have r4 := hC3.f4
      have r5 := hC3.f5
      have r6 := hC3.f6
      have r7 := hC3.f7
      have r8 := hC3.f8
      have r9 := hC3.f9
      have r10 := hC3.f10
      have r11 := hC3.f11
      have r12 := hC3.f12
      have r13 := hC3.f13
      have r14 := hC3.f14
      go_wp2_with fail
      refine (due_v _ _ _ _ _ p since comp _ _ _ _ hin hout warm drain _ _ _ _ _ _ _ (since + 20) (by omega) (by omega) (by omega) (by omega) hp0 t h ok HL.out 0 false HV3.out h3).mono ?_
      rintro e w4 ⟨rfl, hb⟩
      have h4 := h3.next hb
      have hK4 := hK3.below hb (by omega)
      have hC4 := hC3.below hb (by omega)
      have z4 : w.heap.size + 3 ≤ w4.heap.size := by have := hb.size; omega
      clear q0 q1 q2 q3 q4 q5 q6 q7 r0 r1 r2 r3 r4 r5 r6 r7 r8 r9 r10 r11 r12 r13 r14
      clear hb h3 hK3 hC3 z3
      have q0 := hK4.f0
      have q1 := hK4.f1
      have q2 := hK4.f2
      have q3 := hK4.f3
      have q4 := hK4.f4
      have q5 := hK4.f5
      have q6 := hK4.f6
      have q7 := hK4.f7
      have r0 := hC4.f0
      have r1 := hC4.f1
      have r2 := hC4.f2
      have r3 := hC4.f3
      have r4 := hC4.f4
      have r5 := hC4.f5
      have r6 := hC4.f6
      have r7 := hC4.f7
      have r8 := hC4.f8
      have r9 := hC4.f9
      have r10 := hC4.f10
      have r11 := hC4.f11
      have r12 := hC4.f12
      have r13 := hC4.f13
      have r14 := hC4.f14
      go_wp2_with fail
      refine (wakes_c h4).mono ?_
      rintro e w9 ⟨rfl, h9⟩
      go_wp2
      go_ret
      exact ⟨rfl, h9.below⟩
end Go.Proofs.YtmdakmlhcgegcaaDoor
