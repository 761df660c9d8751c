/- PhaseDue: the cases joined. -/
import Derived.Test.YtmdakmlhcgegcaaDoorT
import Derived.Test.YtmdakmlhcgegcaaDoorU
import Derived.Test.YtmdakmlhcgegcaaDoorQ
namespace Go.Proofs.YtmdakmlhcgegcaaDoor
open Go.RowKit Go.Shelf

theorem due_end_not (p t d : Int) (h comp : Bool) : DueEnd p t d h false comp = .tuple #[.int .u8 0, .bool false] := by simp [DueEnd]
theorem due_end_yes (p t d : Int) (h comp : Bool) (hd : (decide (d < t) && !(h && comp)) = false) : DueEnd p t d h true comp = .tuple #[.int .u8 (follow p.toNat 0), .bool true] := by simp only [DueEnd, hd]; simp
theorem due_end_no (p t d : Int) (h comp : Bool) (hd : (decide (d < t) && !(h && comp)) = true) : DueEnd p t d h true comp = .tuple #[.int .u8 0, .bool false] := by simp only [DueEnd, hd]; simp
theorem due_end_is (p t d : Int) (h ok comp : Bool) : ∃ x b, DueEnd p t d h ok comp = .tuple #[.int .u8 x, .bool b] := by
  unfold DueEnd
  split
  · exact ⟨_, _, rfl⟩
  · exact ⟨_, _, rfl⟩

set_option maxHeartbeats 1000000 in
theorem duelaw_any (k0 k1 k2 k3 k6 : Value) (p since : Int) (comp : Bool) (c0 c1 c2 c3 : Value) (hin hout warm drain : Int) (c8 c9 c10 c11 c12 c13 c14 : Value) (now later : Int) (hp0 : 0 ≤ p) (w : World) (hw : 2 ≤ w.heap.size) (hT : Tables w) :
    Calls Tryd.prog 3 #[.agg #[k0, k1, k2, k3, .int .u8 p, .int .i64 since, k6, .bool comp], .agg #[c0, c1, c2, c3, .int .i64 hin, .int .i64 hout, .int .i64 warm, .int .i64 drain, c8, c9, c10, c11, c12, c13, c14], .int .i64 now, .int .i64 later] w
      fun e w' => e = .returned (.bool true) ∧ Below w.heap.size w w' := by
  by_cases hr : ∀ i, i < 4 → InRange (wait4 hin warm drain hout i)
  · by_cases b0 : now < 0
    · exact due_bad0 _ _ _ _ _ p since comp _ _ _ _ hin hout warm drain _ _ _ _ _ _ _ now later hr (decide_eq_true b0) w hw hT
    by_cases b1 : later < now
    · exact due_bad1 _ _ _ _ _ p since comp _ _ _ _ hin hout warm drain _ _ _ _ _ _ _ now later hr (decide_eq_false b0) (decide_eq_true b1) w hw hT
    by_cases b2 : 1099511627776 < later
    · exact due_bad2 _ _ _ _ _ p since comp _ _ _ _ hin hout warm drain _ _ _ _ _ _ _ now later hr (decide_eq_false b0) (decide_eq_false b1) (decide_eq_true b2) w hw hT
    by_cases b3 : since < 0
    · exact due_bad3 _ _ _ _ _ p since comp _ _ _ _ hin hout warm drain _ _ _ _ _ _ _ now later hr (decide_eq_false b0) (decide_eq_false b1) (decide_eq_false b2) (decide_eq_true b3) w hw hT
    by_cases b4 : now < since
    · exact due_bad4 _ _ _ _ _ p since comp _ _ _ _ hin hout warm drain _ _ _ _ _ _ _ now later hr (decide_eq_false b0) (decide_eq_false b1) (decide_eq_false b2) (decide_eq_false b3) (decide_eq_true b4) w hw hT
    have d0 := decide_eq_false b0
    have d1 := decide_eq_false b1
    have d2 := decide_eq_false b2
    have d3 := decide_eq_false b3
    have d4 := decide_eq_false b4
    by_cases p1 : p = 1
    · subst p1
      have hl : waitsAt hin warm drain hout 1 = (hin, true, true) := rfl
      have h20 : hin ≤ 20 := (hr 0 (by decide)).2
      obtain ⟨x2, y2, e2⟩ := due_end_is 1 hin (later - since) true true comp
      have e3 := due_end_yes 1 hin (since + 20 - since) true comp (by simp; omega)
      cases hd : (decide (now - since < hin) && !(true && comp)) with
      | true => exact due_wait0_no _ _ _ _ _ 1 since comp _ _ _ _ hin hout warm drain _ _ _ _ _ _ _ now later hr hp0 (by omega) (by omega) (by omega) (by omega) (by omega) d0 d1 d2 d3 d4 (by decide) hin true true hl _ (by decide +kernel) x2 y2 (due_end_no _ _ _ _ _ hd) e2 e3 w hw hT
      | false => exact due_wait0_yes _ _ _ _ _ 1 since comp _ _ _ _ hin hout warm drain _ _ _ _ _ _ _ now later hr hp0 (by omega) (by omega) (by omega) (by omega) (by omega) d0 d1 d2 d3 d4 (by decide) hin true true hl _ (by decide +kernel) (due_end_yes _ _ _ _ _ hd) (due_end_yes _ _ _ _ _ (by cases comp <;> simp at hd ⊢; omega)) e3 w hw hT
    by_cases p2 : p = 2
    · subst p2
      have hl : waitsAt hin warm drain hout 2 = (warm, false, true) := rfl
      have h20 : warm ≤ 20 := (hr 1 (by decide)).2
      obtain ⟨x2, y2, e2⟩ := due_end_is 2 warm (later - since) false true comp
      have e3 := due_end_yes 2 warm (since + 20 - since) false comp (by simp; omega)
      cases hd : (decide (now - since < warm) && !(false && comp)) with
      | true => exact due_wait1_no _ _ _ _ _ 2 since comp _ _ _ _ hin hout warm drain _ _ _ _ _ _ _ now later hr hp0 (by omega) (by omega) (by omega) (by omega) (by omega) d0 d1 d2 d3 d4 (by decide) (by decide) warm false true hl _ (by decide +kernel) x2 y2 (due_end_no _ _ _ _ _ hd) e2 e3 w hw hT
      | false => exact due_wait1_yes _ _ _ _ _ 2 since comp _ _ _ _ hin hout warm drain _ _ _ _ _ _ _ now later hr hp0 (by omega) (by omega) (by omega) (by omega) (by omega) d0 d1 d2 d3 d4 (by decide) (by decide) warm false true hl _ (by decide +kernel) (due_end_yes _ _ _ _ _ hd) (due_end_yes _ _ _ _ _ (by simp at hd ⊢; omega)) e3 w hw hT
    by_cases p3 : p = 6
    · subst p3
      have hl : waitsAt hin warm drain hout 6 = (drain, false, true) := rfl
      have h20 : drain ≤ 20 := (hr 2 (by decide)).2
      obtain ⟨x2, y2, e2⟩ := due_end_is 6 drain (later - since) false true comp
      have e3 := due_end_yes 6 drain (since + 20 - since) false comp (by simp; omega)
      cases hd : (decide (now - since < drain) && !(false && comp)) with
      | true => exact due_wait2_no _ _ _ _ _ 6 since comp _ _ _ _ hin hout warm drain _ _ _ _ _ _ _ now later hr hp0 (by omega) (by omega) (by omega) (by omega) (by omega) d0 d1 d2 d3 d4 (by decide) (by decide) (by decide) drain false true hl _ (by decide +kernel) x2 y2 (due_end_no _ _ _ _ _ hd) e2 e3 w hw hT
      | false => exact due_wait2_yes _ _ _ _ _ 6 since comp _ _ _ _ hin hout warm drain _ _ _ _ _ _ _ now later hr hp0 (by omega) (by omega) (by omega) (by omega) (by omega) d0 d1 d2 d3 d4 (by decide) (by decide) (by decide) drain false true hl _ (by decide +kernel) (due_end_yes _ _ _ _ _ hd) (due_end_yes _ _ _ _ _ (by simp at hd ⊢; omega)) e3 w hw hT
    by_cases p4 : p = 7
    · subst p4
      have hl : waitsAt hin warm drain hout 7 = (hout, true, true) := rfl
      have h20 : hout ≤ 20 := (hr 3 (by decide)).2
      obtain ⟨x2, y2, e2⟩ := due_end_is 7 hout (later - since) true true comp
      have e3 := due_end_yes 7 hout (since + 20 - since) true comp (by simp; omega)
      cases hd : (decide (now - since < hout) && !(true && comp)) with
      | true => exact due_wait3_no _ _ _ _ _ 7 since comp _ _ _ _ hin hout warm drain _ _ _ _ _ _ _ now later hr hp0 (by omega) (by omega) (by omega) (by omega) (by omega) d0 d1 d2 d3 d4 (by decide) (by decide) (by decide) (by decide) hout true true hl _ (by decide +kernel) x2 y2 (due_end_no _ _ _ _ _ hd) e2 e3 w hw hT
      | false => exact due_wait3_yes _ _ _ _ _ 7 since comp _ _ _ _ hin hout warm drain _ _ _ _ _ _ _ now later hr hp0 (by omega) (by omega) (by omega) (by omega) (by omega) d0 d1 d2 d3 d4 (by decide) (by decide) (by decide) (by decide) hout true true hl _ (by decide +kernel) (due_end_yes _ _ _ _ _ hd) (due_end_yes _ _ _ _ _ (by cases comp <;> simp at hd ⊢; omega)) e3 w hw hT
    have hl : waitsAt hin warm drain hout p = (0, false, false) := by simp [waitsAt, p1, p2, p3, p4]
    exact due_none _ _ _ _ _ p since comp _ _ _ _ hin hout warm drain _ _ _ _ _ _ _ now later hr hp0 (by omega) (by omega) (by omega) (by omega) (by omega) d0 d1 d2 d3 d4 (by simp [p1]) (by simp [p2]) (by simp [p3]) (by simp [p4]) 0 false false hl (due_end_not _ _ _ _ _) (due_end_not _ _ _ _ _) (due_end_not _ _ _ _ _) w hw hT
  · exact due_far _ _ _ _ _ p since comp _ _ _ _ hin hout warm drain _ _ _ _ _ _ _ now later hr w hw hT
end Go.Proofs.YtmdakmlhcgegcaaDoor
