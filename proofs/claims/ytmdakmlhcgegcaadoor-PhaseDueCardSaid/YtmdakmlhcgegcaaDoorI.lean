/- The contract of wakes: it returns true. -/
import Derived.Test.YtmdakmlhcgegcaaDoorD
import Derived.Test.YtmdakmlhcgegcaaDoorE
import Derived.Test.YtmdakmlhcgegcaaDoorF
import Derived.Test.YtmdakmlhcgegcaaDoorH
namespace Go.Proofs.YtmdakmlhcgegcaaDoor
open Go.RowKit Go.Shelf

/-- Where a walk stands: nothing of w has turned. -/
structure St (w wi : World) : Prop where
  below : Below w.heap.size w wi
  tables : Tables wi
  two : 2 ≤ wi.heap.size
theorem St.next {w wi wj : World} (h : St w wi) (hb : Below wi.heap.size wi wj) : St w wj :=
  ⟨h.below.trans (hb.mono h.below.size), h.tables.below hb h.two, Nat.le_trans h.two hb.size⟩

theorem legal_c (a b : Int) (r : Bool) (h0 : 0 ≤ a) (hr : legalB a b = r) {w0 w : World} (h : St w0 w) :
    Calls Tryd.prog 9 #[.int .u8 a, .int .u8 b] w fun e W' => e = .returned (.bool r) ∧ St w0 W' := by
  subst hr
  exact (legal_any a b h0 w h.two h.tables).mono fun e w' ⟨he, hb⟩ => ⟨he, h.next hb⟩
theorem stands_c (a : Int) (r : Bool) (hr : standsB a = r) (w : World) : Calls Tryd.prog 10 #[.int .u8 a] w fun e w' => e = .returned (.bool r) ∧ w = w' := by
  subst hr; exact stands_any a w
theorem goes_c (a : Int) (r : Bool) (hr : goesB a = r) (w : World) : Calls Tryd.prog 11 #[.int .u8 a] w fun e w' => e = .returned (.bool r) ∧ w = w' := by
  subst hr; exact goes_any a w

def PathC (w0 : World) (l : List Int) (e : Ending) (w' : World) : Prop :=
  ∃ g cap, e = .returned (.slice (some ⟨g, 0, none⟩) l.length cap) ∧ St w0 w' ∧ g < w'.heap.size ∧ ∀ j, j < l.length → w'.cell? ⟨g, j, none⟩ = some (.int .u8 (l.getD j 0))
theorem path_c (a : Int) (l : List Int) (hl : pathI a = l) (hne : 0 < l.length) (h0 : 0 ≤ a) {w0 w : World} (h : St w0 w) :
    Calls Tryd.prog 13 #[.int .u8 a] w (PathC w0 l) := by
  subst hl
  refine (path_any a h0 w h.two h.tables).mono ?_
  rintro e w' ⟨v, rfl, hown, hb⟩
  obtain ⟨k, hk⟩ : ∃ k, (pathI a).length = k + 1 := ⟨(pathI a).length - 1, by omega⟩
  rw [hk] at hown
  obtain ⟨g, cap, rfl⟩ := ownsRow_succ hown
  rw [← hk] at hown ⊢
  refine ⟨g, cap, rfl, h.next hb, (hown.lt g rfl).2, fun j hj => ?_⟩
  rw [hown.cellAt j (by omega)]
  have hj' : j < (pathI a).length := by omega
  simp [u8s, hj']

theorem name_c (a : Int) (s : ByteArray) (hs : nameS a.toNat = s) (h0 : 0 ≤ a) (h1 : a < 11) {w0 w : World} (h : St w0 w) : Calls Tryd.prog 12 #[.int .u8 a] w fun e w' => e = .returned (.string s) ∧ w = w' := by
  subst hs; exact name_low a h0 h1 w h.tables

def NilC (w0 : World) (e : Ending) (w' : World) : Prop := e = .returned (.slice none 0 0) ∧ St w0 w'
theorem path0_c {w0 w : World} (h : St w0 w) : Calls Tryd.prog 13 #[.int .u8 0] w (NilC w0) :=
  (path_none 0 (.inl (by omega)) (by omega) w).mono fun e w' ⟨he, hw⟩ => ⟨he, by rw [← hw]; exact h⟩

theorem due_c (now : Int) (v : Value) (hn0 : 0 ≤ now) (hn1 : now ≤ 2199023255552) (hv : DueEnd 2 2 (now - 3) false true false = v) {w0 w : World} (h : St w0 w) :
    Calls Tryd.prog 8 #[.agg #[.int .i64 0, .int .i64 0, .int .i64 0, .int .i64 0, .int .u8 2, .int .i64 3, .bool false, .bool false], .agg #[.int .i64 0, .int .i64 0, .int .i64 0, .int .i64 0, .int .i64 0, .int .i64 0, .int .i64 2, .int .i64 0, .int .i64 0, .int .i64 0, .int .i64 0, .int .i64 0, .int .i64 0, .bool false, .slice none 0 0], .int .i64 now] w
      fun e w' => e = .returned v ∧ Below w.heap.size w w' := by
  subst hv
  exact due_any _ _ _ _ _ 2 3 false _ _ _ _ 0 0 2 0 _ _ _ _ _ _ _ now w h.two h.tables (by omega) (by omega) hn0 hn1 (by omega) 2 false true rfl

theorem find_c {w0 w : World} (h : St w0 w) :
    Calls Tryd.prog 14 #[.slice (some ⟨w.heap.size, 0, none⟩) 1 1, .int .i64 3] (w.alloc (.cells #[.int .i64 3, .int .i64 0, .int .i64 0, .int .i64 0, .int .u8 0, .int .i64 0, .bool false, .bool false] 23))
      fun e w' => e = .returned (.int .i64 0) ∧ St w0 w' := by
  refine (find_any _ 1 (fun _ => 3) 3 (by omega) _ (.inr ⟨w.heap.size, 0, 1, rfl, by simp, fun i hi => ?_⟩)).mono ?_
  · obtain rfl : i = 0 := by omega
    refine ⟨.int .i64 0, .int .i64 0, .int .i64 0, .int .u8 0, .int .i64 0, .bool false, .bool false, ?_, ?_, ?_, ?_, ?_, ?_, ?_, ?_⟩ <;> simp [go_sem]
  · rintro e w' ⟨rfl, hb⟩
    exact ⟨rfl, (h.next ((Below.refl _ _).alloc (Nat.le_refl _) _)).next hb⟩

set_option maxRecDepth 100000 in
set_option maxHeartbeats 4000000 in
theorem wakes_any (w : World) (hw : 2 ≤ w.heap.size) (hT : Tables w) :
    Calls Tryd.prog 7 #[] w fun e w' => e = .returned (.bool true) ∧ Below w.heap.size w w' := by
  have h0 : St w w := ⟨Below.refl _ _, hT, hw⟩
  clear hw hT
  go_enter Tryd.func7, Tryd.ntmps7
  go_wp2_with fail
  refine (path_c 5 [5, 6, 7, 8] rfl (by decide) (by omega) h0).mono ?_
  rintro e w1 ⟨g, cap, rfl, h1, hg, hcell⟩
  have HC := Lib.hid hcell
  clear hcell h0
  go_wp2_with fail
  refine (due_c 5 (.tuple #[.int .u8 3, .bool true]) (by omega) (by omega) rfl h1).mono ?_
  rintro e w2 ⟨rfl, hb2⟩
  have h2 := h1.next hb2
  have HC2 := Lib.hid (fun j hj => (hb2.cell (p := ⟨g, j, none⟩) hg).trans (HC.out j hj))
  have hg2 := Nat.lt_of_lt_of_le hg hb2.size
  clear h1 HC hg hb2
  go_wp2_with fail
  refine (due_c 4 (.tuple #[.int .u8 0, .bool false]) (by omega) (by omega) rfl h2).mono ?_
  rintro e w3 ⟨rfl, hb3⟩
  have h3 := h2.next hb3
  have hc1 := (hb3.cell (p := ⟨g, 1, none⟩) hg2).trans (HC2.out 1 (by decide))
  have hc3 := (hb3.cell (p := ⟨g, 3, none⟩) hg2).trans (HC2.out 3 (by decide))
  have hc1' : w3.cell? ⟨g, 1, none⟩ = some (.int .u8 6) := hc1
  have hc3' : w3.cell? ⟨g, 3, none⟩ = some (.int .u8 8) := hc3
  clear h2 HC2 hg2 hb3 hc1 hc3
  go_wp2_with fail
  refine (legal_c 4 5 true (by omega) (by decide) h3).mono ?_
  rintro e w4 ⟨rfl, h4⟩
  clear hc1' hc3' h3
  go_wp2_with fail
  refine (legal_c 8 4 false (by omega) (by decide) h4).mono ?_
  rintro e w5 ⟨rfl, h5⟩
  clear h4
  go_wp2_with fail
  refine (stands_c 4 true (by decide) _).mono ?_
  rintro e w6 ⟨rfl, rfl⟩
  go_wp2_with fail
  refine (goes_c 6 true (by decide) _).mono ?_
  rintro e w6 ⟨rfl, rfl⟩
  go_wp2_with fail
  refine (name_c 4 ⟨#[115, 101, 114, 118, 105, 110, 103]⟩ rfl (by omega) (by omega) h5).mono ?_
  rintro e w6 ⟨rfl, rfl⟩
  go_wp2_with fail
  refine (find_c h5).mono ?_
  rintro e w6 ⟨rfl, h6⟩
  clear h5
  go_wp2_with fail
  refine (path0_c h6).mono ?_
  rintro e w7 ⟨rfl, h7⟩
  clear h6
  go_wp2
  go_ret
  exact ⟨rfl, h7.below⟩
end Go.Proofs.YtmdakmlhcgegcaaDoor
