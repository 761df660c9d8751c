/- The contract of Due. -/
import Derived.RegionTactic
import Derived.BigRegion
import Derived.Deep.RegionWith
import Derived.Deep.RegionHeld3
import Derived.Deep.DeepCutAuto
import Derived.StillTailTactics
import Derived.Test.YtmdakmlhcgegcaaDoorG
namespace Go.Proofs.YtmdakmlhcgegcaaDoor
open Go.RowKit Go.Shelf

/-- The look-up, at the three worlds in which the region may come to it. -/
theorem looks {m : Array MapEntry} {x : Value} {w : World} {p : Int}
    (hlook : ∀ (W : World) (r : Nat), W.heap[r]? = some (.map m 4) → (Instr.lookup 42 (.map (some r)) (.int .u8 p) true).run Tryd.prog W = .ok x W) :
    (∀ o1 o2 o3, (Instr.lookup 42 (.map (some (w.heap.size + 1 + 1 + 1))) (.int .u8 p) true).run Tryd.prog ((((w.alloc o1).alloc o2).alloc o3).alloc (.map m 4)).drew = .ok x ((((w.alloc o1).alloc o2).alloc o3).alloc (.map m 4)).drew) ∧
    (∀ o1 o2 o3 o4, (Instr.lookup 42 (.map (some (w.heap.size + 1 + 1 + 1 + 1))) (.int .u8 p) true).run Tryd.prog (((((w.alloc o1).alloc o2).alloc o3).alloc o4).alloc (.map m 4)).drew = .ok x (((((w.alloc o1).alloc o2).alloc o3).alloc o4).alloc (.map m 4)).drew) ∧
    (∀ o1 o2 o3 o4, (Instr.lookup 42 (.map (some (w.heap.size + 1 + 1 + 1))) (.int .u8 p) true).run Tryd.prog (((((w.alloc o1).alloc o2).alloc o3).alloc (.map m 4)).alloc o4).drew = .ok x (((((w.alloc o1).alloc o2).alloc o3).alloc (.map m 4)).alloc o4).drew) := by
  refine ⟨fun o1 o2 o3 => hlook _ _ ?_, fun o1 o2 o3 o4 => hlook _ _ ?_, fun o1 o2 o3 o4 => hlook _ _ ?_⟩
  · have := World.alloc_heap_new (((w.alloc o1).alloc o2).alloc o3) (.map m 4)
    simp only [World.size_alloc] at this
    exact this
  · have := World.alloc_heap_new ((((w.alloc o1).alloc o2).alloc o3).alloc o4) (.map m 4)
    simp only [World.size_alloc] at this
    exact this
  · have h1 := World.alloc_heap_new (((w.alloc o1).alloc o2).alloc o3) (.map m 4)
    have h2 := Below.heap_alloc ((((w.alloc o1).alloc o2).alloc o3).alloc (.map m 4)) o4 (((w.alloc o1).alloc o2).alloc o3).heap.size (by simp)
    have := h2.trans h1
    simp only [World.size_alloc] at this
    exact this

/-- What Due hands back. -/
def DueEnd (p t d : Int) (h ok comp : Bool) : Value :=
  if ok && !(decide (d < t) && !(h && comp)) then .tuple #[.int .u8 (follow p.toNat 0), .bool true] else .tuple #[.int .u8 0, .bool false]

def DuePost (w : World) (p t d : Int) (h ok comp : Bool) (e : Ending) (w' : World) : Prop := e = .returned (DueEnd p t d h ok comp) ∧ Below w.heap.size w w'

set_option maxRecDepth 100000 in
set_option maxHeartbeats 4000000 in
theorem due_any (k0 k1 k2 k3 k6 : Value) (p since : Int) (comp : Bool) (c0 c1 c2 c3 : Value) (hin hout warm drain : Int) (c8 c9 c10 c11 c12 c13 c14 : Value) (now : Int) (w : World) (hw : 2 ≤ w.heap.size) (hT : Tables w)
    (hs0 : 0 ≤ since) (hs1 : since ≤ 2199023255552) (hn0 : 0 ≤ now) (hn1 : now ≤ 2199023255552) (hp0 : 0 ≤ p)
    (t : Int) (h ok : Bool) (hl : waitsAt hin warm drain hout p = (t, h, ok)) :
    Calls Tryd.prog 8 #[.agg #[k0, k1, k2, k3, .int .u8 p, .int .i64 since, k6, .bool comp], .agg #[c0, c1, c2, c3, .int .i64 hin, .int .i64 hout, .int .i64 warm, .int .i64 drain, c8, c9, c10, c11, c12, c13, c14], .int .i64 now] w
      (DuePost w p t (now - since) h ok comp) := by
  have hlook := run_waits_lookup hin warm drain hout p
  rw [hl] at hlook
  have hp : ok = true → p < 11 := by
    intro h0
    subst h0
    unfold waitsAt at hl
    split at hl
    · omega
    split at hl
    · omega
    split at hl
    · omega
    split at hl
    · omega
    · simp at hl
  obtain ⟨g1, g2, g3⟩ := looks (w := w) hlook
  clear hlook
  go_enter Tryd.func8, Tryd.ntmps8
  go_upto_region 1 with fail
  go_cut [8, 9] (fun s8 s9 wx => ∃ g : Nat, s8 = .pointer (some ⟨g, 0, none⟩) ∧ s9 = .bool ok ∧ wx.cell? ⟨g, 0, none⟩ = some (.int .i64 t) ∧ wx.cell? ⟨g, 1, none⟩ = some (.bool h) ∧
    wx.cell? ⟨w.heap.size, 4, none⟩ = some (.int .u8 p) ∧ wx.cell? ⟨w.heap.size, 5, none⟩ = some (.int .i64 since) ∧ wx.cell? ⟨w.heap.size, 7, none⟩ = some (.bool comp) ∧ Below w.heap.size w wx)
  case first =>
    go_region_with (go_at_call 15; refine (waits_any _ _ _ _ _ _ _ _ _ _ _ _ _ _ _ _).mono ?_; rintro e w' ⟨rfl, rfl⟩)
    all_goals go_wp2_with fail
    all_goals go_meet
    all_goals exact ⟨_, rfl, rfl, by simp [go_sem], by simp [go_sem], by simp [go_sem], by simp [go_sem], by simp [go_sem], by repeat (first | exact Below.refl _ _ | refine Below.drew ?_ | refine Below.alloc ?_ (by simp; try omega) _)⟩
  case rest =>
    obtain ⟨g, rfl, rfl, h0, h1, h4, h5, h7, hB⟩ := hcut
    cases ok with
    | false =>
      clear hl hp hT
      go_wp2
      go_ret2
      exact ⟨by simp [DueEnd], hB⟩
    | true =>
      have hp1 := hp rfl
      have hf := (hT.below hB hw).follow p.toNat 0 (by omega) (by decide)
      rw [Nat.add_zero] at hf
      clear hl hp hT hw
      cases h <;> cases comp <;> by_cases hd : now - since < t
      all_goals go_wp2
      all_goals go_ret2
      all_goals exact ⟨by simp [DueEnd, hd], hB⟩
end Go.Proofs.YtmdakmlhcgegcaaDoor
