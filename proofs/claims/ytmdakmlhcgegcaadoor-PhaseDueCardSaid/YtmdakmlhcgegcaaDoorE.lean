/- The contract of Path. -/
import Derived.OwnWalk
import Derived.Laws.AppendOwn
import Derived.Maps.AppendAt
import Derived.Scope
import Derived.ScopeJumps
import Derived.WalkMore
import Derived.Lib.Hide
import Derived.Test.YtmdakmlhcgegcaaDoorC
namespace Go.Proofs.YtmdakmlhcgegcaaDoor
open Go.RowKit Go.Shelf

def pathsL : List (List Int) := [[], [1, 2, 3, 4, 5, 6, 7, 8], [2, 3, 4, 5, 6, 7, 8], [3, 4, 5, 6, 7, 8], [4, 5, 6, 7, 8], [5, 6, 7, 8], [6, 7, 8], [7, 8], [8], [9, 10, 1, 2, 3, 4, 5, 6, 7, 8], [10, 1, 2, 3, 4, 5, 6, 7, 8]]
def pathOf (a : Nat) : List Int := pathsL.getD a []

theorem path_step : ∀ m : Nat, m < 11 → 1 ≤ m → pathOf m = (m : Int) :: (if follow m 0 = 0 then [] else pathOf (follow m 0).toNat) := by decide
theorem path_next : ∀ m : Nat, m < 11 → 1 ≤ m → follow m 0 = 0 ∨ (1 ≤ follow m 0 ∧ follow m 0 ≤ 10) := by decide
theorem path_len : ∀ m : Nat, m < 11 → (pathOf m).length ≤ 10 := by decide

theorem info5 : (Tryd.prog.info? 5).map (fun i => (i.zero, i.size, i.bytes)) = some (some (.int .u8 0), 1, 1) := by kernel_rfl

theorem path_none (a : Int) (h : a < 1 ∨ 11 ≤ a) (h2 : 0 ≤ a) (w : World) :
    Calls Tryd.prog 13 #[.int .u8 a] w fun e w' => e = .returned (.slice none 0 0) ∧ w = w' := by
  by_cases h0 : a = 0
  · subst h0
    go_enter Tryd.func13, Tryd.ntmps13
    go_wp2
    go_step3
    go_wp2
    rw [Exit.noGoto_ret]
    go_ret
    exact ⟨rfl, rfl⟩
  · have hne : (a == 0) = false := by simp [h0]
    have h1 : 11 ≤ a := by omega
    clear h
    go_enter Tryd.func13, Tryd.ntmps13
    go_wp2
    go_step3
    go_wp2
    rw [Exit.noGoto_ret]
    go_ret
    exact ⟨rfl, rfl⟩

/-- A scope with a label behind its opening code: what holds at every jump holds where the opening code ends, too. -/
theorem wp_scope_at {P : Program} {Q : Exit → Act → World → Prop} {a : Act} {w : World} {c r : Code} (l : Nat) (J : Act → World → Prop) (μ : Act → World → Nat) (hc : findLabel c l = none)
    (h0 : c.wp P (Exit.then J (Exit.jump l J Q)) a w)
    (pass : ∀ a w, J a w → r.wp P (Exit.jump l (fun a' w' => J a' w' ∧ μ a' w' < μ a w) Q) a w) : (Code.scope (.seq c (.seq (.label l) r))).wp P Q a w := by
  refine wp_scope_jumps (rest := .seq .skip r) l J μ (by simp [findLabel, hc]) ?_ ?_
  · refine wp_seq (wp_mono h0 ?_)
    intro e a' w' h
    cases e with
    | normal =>
      refine wp_seq (wp_label ?_)
      refine wp_mono (pass a' w' h) ?_
      intro e a' w' h
      cases e <;> simp_all [Exit.jump]
    | _ => exact h
  · intro a' w' hJ
    exact wp_seq (wp_skip (pass a' w' hJ))

def u8s (l : List Int) : List Value := l.map fun x => .int .u8 x

/-- What Path hands back: a slice of its own that holds the path. -/
def PathPost (w : World) (l : List Int) (e : Ending) (w' : World) : Prop :=
  ∃ v, e = .returned v ∧ w'.ownsRow w.heap.size 5 1 v l.length (u8s l) ∧ Below w.heap.size w w'

/-- What holds at each jump to the label: xs has been collected, m comes next. -/
def PathAt (w : World) (l : List Int) (a : Act) (w' : World) : Prop :=
  ∃ (xs : List Int) (m : Nat) (v : Value) (u3 u4 u5 u6 u7 u8 u9 u10 u11 u12 u13 u14 u15 u16 u17 u18 : Value),
    a = { tmps := #[.int .u8 m, undef, v, u3, u4, u5, u6, u7, u8, u9, u10, u11, u12, u13, u14, u15, u16, u17, u18, undef], defers := [] } ∧
    1 ≤ m ∧ m < 11 ∧ l = xs ++ pathOf m ∧ w'.ownsRow w.heap.size 5 1 v xs.length (u8s xs) ∧ Below w.heap.size w w'

set_option maxRecDepth 100000 in
set_option maxHeartbeats 1000000 in
theorem path_some (a : Nat) (h1 : 1 ≤ a) (h2 : a < 11) (w : World) (hw : 2 ≤ w.heap.size) (hT : Tables w) :
    Calls Tryd.prog 13 #[.int .u8 a] w (PathPost w (pathOf a)) := by
  have hne : ((a : Int) == 0) = false := by simp; omega
  obtain ⟨i0, hi, hz0, hz1, hz2⟩ := info_parts info5
  have hlen := path_len a h2
  go_enter Tryd.func13, Tryd.ntmps13
  go_wp2
  refine wp_scope_at 0 (PathAt w (pathOf a)) (fun a' _ => (pathOf (intOf (a'.tmps.getD 0 undef)).toNat).length) rfl ?_ ?_
  · go_wp2
    exact ⟨[], a, .slice none 0 0, _, _, _, _, _, _, _, _, _, _, _, _, _, _, _, _, rfl, h1, h2, rfl, World.ownsRow_nil _ _ _ _, Below.refl _ _⟩
  · rintro a' w' ⟨xs, m, v, u3, u4, u5, u6, u7, u8, u9, u10, u11, u12, u13, u14, u15, u16, u17, u18, rfl, hm1, hm2, hl, hown, hB⟩
    have hxl : xs.length ≤ 10 := by have := congrArg List.length hl; simp at this; omega
    have hsz := hB.size
    have HL := Lib.hid hl
    clear hl hne
    go_wp2_with (at_builtin; refine wpList_append_own _ rfl _ _ 35 rfl w.heap.size 5 i0 (.int .u8 0) 1 1 Tryd.underlying35 hi hz0 hz1 hz2 rfl (by decide) _ _ _ rfl (hown.alloc _) ⟨w'.heap.size, 0, none⟩ 1 1 [.int .u8 m] rfl rfl ?c1 ?c2 ?c3 ?c4 ?c5 ?_)
    case c1 => exact cell_one_new _ _ _
    case c2 => simp [Value.oneCell']
    case c3 => unfold maxLen; omega
    case c4 => omega
    case c5 => simp; omega
    intro v' w1 hown' hgrow _
    have hB1 : Below w.heap.size w w1 := (hB.alloc hsz _).grown hgrow (by simp; omega) (fun k hk => (hown.lt k hk).1)
    have hc : w1.cell? ⟨0, m * 2, none⟩ = some (.int .u8 (follow m 0)) := (hT.below hB1 hw).follow m 0 hm2 (by decide)
    have hst := path_step m hm2 hm1
    have hnx := path_next m hm2 hm1
    have HOWN : w1.ownsRow w.heap.size 5 1 v' (xs ++ [(m : Int)]).length (u8s (xs ++ [(m : Int)])) := by
      have : u8s (xs ++ [(m : Int)]) = u8s xs ++ [.int .u8 m] := by simp [u8s]
      rw [this, List.length_append]
      exact hown'
    clear hown' hgrow
    by_cases hz : follow m 0 = 0
    · have hz' : (follow m 0 != 0) = false := by simp [hz]
      rw [if_pos hz] at hst
      have HS := Lib.hid hst
      clear hst hz hnx
      go_wp2
      go_ret
      refine ⟨v', rfl, ?_, hB1⟩
      rw [HL.out, HS.out]
      exact HOWN
    · have hz' : (follow m 0 != 0) = true := by simp [hz]
      rw [if_neg hz] at hst
      obtain ⟨hn1, hn2⟩ := hnx.resolve_left hz
      obtain ⟨k, hk⟩ := Int.eq_ofNat_of_zero_le (show 0 ≤ follow m 0 by omega)
      have hl2 : pathOf a = (xs ++ [(m : Int)]) ++ pathOf k := by rw [HL.out, hst, hk]; simp
      have hl3 : (pathOf k).length < (pathOf m).length := by rw [hst, hk]; simp
      rw [hk] at hc hz' hn1 hn2
      have HS := Lib.hid hl2
      clear hst hz hl2 hk hnx
      go_wp2
      go_step3
      refine ⟨rfl, ⟨xs ++ [(m : Int)], k, v', _, _, _, _, _, _, _, _, _, _, _, _, _, _, _, _, rfl, by omega, by omega, HS.out, HOWN, hB1⟩, ?_⟩
      simpa [intOf] using hl3

def pathI (a : Int) : List Int := if 1 ≤ a ∧ a < 11 then pathOf a.toNat else []

theorem path_any (a : Int) (h0 : 0 ≤ a) (w : World) (hw : 2 ≤ w.heap.size) (hT : Tables w) :
    Calls Tryd.prog 13 #[.int .u8 a] w (PathPost w (pathI a)) := by
  unfold pathI
  by_cases h : 1 ≤ a ∧ a < 11
  · obtain ⟨m, rfl⟩ := Int.eq_ofNat_of_zero_le h0
    rw [if_pos h]
    exact path_some m (by omega) (by omega) w hw hT
  · rw [if_neg h]
    refine (path_none a (by omega) h0 w).mono ?_
    rintro e w' ⟨rfl, rfl⟩
    exact ⟨_, rfl, World.ownsRow_nil _ _ _ _, Below.refl _ _⟩
end Go.Proofs.YtmdakmlhcgegcaaDoor
