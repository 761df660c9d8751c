/- The contract of herdref07.Check: it answers; where it answers 0, two fields are small. -/
import Derived.BigQuiet
import Derived.Deep.QuietTactic
import Derived.CellFam
import Derived.Test.YtpneohekghpkbaaI
namespace Go.Proofs.Ytpneohekghpkbaa
open Go.RowKit Go.Shelf

theorem within_c (v lo hi : Int) (w : World) : Calls Try.prog 30 #[.int .i64 v, .int .i64 lo, .int .i64 hi] w fun e w' => ∃ r, e = .returned (.bool r) ∧ w' = w ∧ Hid (r = true → lo ≤ v ∧ v ≤ hi) := by
  refine (within_any v lo hi w).mono ?_
  rintro e w' ⟨rfl, rfl⟩
  exact ⟨_, rfl, rfl, Lib.hid (by simp)⟩

theorem within_d (v lo hi : Int) (r : Bool) (hr : (decide (lo ≤ v) && decide (v ≤ hi)) = r) (w : World) : Calls Try.prog 30 #[.int .i64 v, .int .i64 lo, .int .i64 hi] w fun e w' => e = .returned (.bool r) ∧ w' = w := by
  subst hr; exact within_any v lo hi w

theorem below_drewN {N : Nat} {w w' : World} (h : Below N w w') (n : Nat) : Below N w (w'.drewN n) := ⟨h.os, h.tape, h.output, h.size, h.block⟩

theorem size24 : (Try.prog.info? 24).map (·.size) = some 15 := by kernel_rfl
/-- The value leads to a block that holds a configuration. -/
def Loads24 (w : World) (v : Value) : Prop := ∃ B cs, v = .pointer (some ⟨B, 0, none⟩) ∧ w.heap[B]? = some (.cells cs 24 (0, 0)) ∧ cs.size = 15
theorem load24_rule (d : Option Tmp) (k t : Nat) (p : String) (af : Array Edge) (g : Option (Nat × Bool)) (ρ : Operand → Value) (w : World) (h : Loads24 w (ρ (.tmp k))) :
    Sem.run Try.prog (execOp ρ { dst := d, op := .load 24 (.tmp k), type := t, pos := p, after := af, guard := g }) w = .ok (.value (.agg (rowOf w (ρ (.tmp k))))) w := by
  obtain ⟨B, cs, hv, hh, hs⟩ := h
  have hl : (loadVar 24 ⟨B, 0, none⟩).run Try.prog w = .ok (.agg cs) w := run_loadVar_row w B 24 24 cs (0, 0) _ hh Try.underlying24 rfl (by rw [hs]; exact size24)
  unfold execOp
  simp only [hv, Instr.loadAt, Instr.sureAddr, Sem.run_bind, Sem.run_pure, Result.andThen_ok, hl, rowOf, hh]
attribute [local go_sem ↓] load24_rule
theorem loads24_drew (w : World) (v : Value) : Loads24 w.drew v = Loads24 w v := rfl
theorem rowOf_drewJ (w : World) (v : Value) : rowOf w.drew v = rowOf w v := rfl
attribute [local go_sem] loads24_drew rowOf_drewJ
theorem loads24_of {w : World} {B : Nat} {b : Br} (h : w.heap[B]? = some (.cells (cfg b) 24 (0, 0))) : Loads24 w (.pointer (some ⟨B, 0, none⟩)) ∧ rowOf w (.pointer (some ⟨B, 0, none⟩)) = #[.int .i64 b.desired, .int .i64 b.minh, .int .i64 b.surplus, .int .i64 b.pool, .int .i64 b.hookIn, .int .i64 b.hookOut, .int .i64 b.warmup, .int .i64 b.drain, .int .i64 b.reap, .int .i64 b.timeout, .int .i64 b.fails, .int .i64 b.delay, .int .i64 b.version, .bool b.skip, .slice b.ma b.ml b.mc] := by
  refine ⟨⟨B, _, rfl, h, rfl⟩, ?_⟩
  simp only [rowOf, h]
  rfl

/-- What the last region reads. -/
def Ends (b : Br) (C : Nat) (w' : World) : Prop := Loads24 w' (.pointer (some ⟨C, 0, none⟩)) ∧ rowOf w' (.pointer (some ⟨C, 0, none⟩)) = #[.int .i64 b.desired, .int .i64 b.minh, .int .i64 b.surplus, .int .i64 b.pool, .int .i64 b.hookIn, .int .i64 b.hookOut, .int .i64 b.warmup, .int .i64 b.drain, .int .i64 b.reap, .int .i64 b.timeout, .int .i64 b.fails, .int .i64 b.delay, .int .i64 b.version, .bool b.skip, .slice b.ma b.ml b.mc] ∧ w'.cell? ⟨C, 0, none⟩ = some (.int .i64 b.desired) ∧ w'.cell? ⟨C, 2, none⟩ = some (.int .i64 b.surplus)
theorem ends_of {w : World} {B : Nat} {b : Br} (h : w.heap[B]? = some (.cells (cfg b) 24 (0, 0))) : Ends b B w := ⟨(loads24_of h).1, (loads24_of h).2, cell_of_row _ _ _ _ _ _ h, cell_of_row _ _ _ _ _ _ h⟩
theorem floor_keep (b : Br) (w : World) (B : Nat) (hB : B < w.heap.size) (h : w.heap[B]? = some (.cells (cfg b) 24 (0, 0))) :
    Calls Try.prog 31 #[.agg #[.int .i64 b.desired, .int .i64 b.minh, .int .i64 b.surplus, .int .i64 b.pool, .int .i64 b.hookIn, .int .i64 b.hookOut, .int .i64 b.warmup, .int .i64 b.drain, .int .i64 b.reap, .int .i64 b.timeout, .int .i64 b.fails, .int .i64 b.delay, .int .i64 b.version, .bool b.skip, .slice b.ma b.ml b.mc]] w fun e w' => (∃ n, e = .returned (.int .i64 n)) ∧ Ends b B w' ∧ Below w.heap.size w w' :=
  (floor_any b w).mono fun _ _ ⟨he, hb⟩ => ⟨he, ends_of ((hb.block B hB).trans h), hb⟩

/-- What its answer tells. -/
def CheckPost (b : Br) (w : World) (e : Ending) (w' : World) : Prop := ∃ n, e = .returned (.int .i64 n) ∧ (n = 0 → (0 ≤ b.desired ∧ b.desired ≤ 6) ∧ (0 ≤ b.delay ∧ b.delay ≤ 20)) ∧ Below w.heap.size w w'
theorem CheckPost.bad {b : Br} {w w' : World} (h : Below w.heap.size w w') : CheckPost b w (.returned (.int .i64 70)) w' := ⟨70, rfl, fun h => absurd h (by decide), h⟩

theorem CheckPost.any {b : Br} {w w' : World} (n : Int) (h1 : 0 ≤ b.desired ∧ b.desired ≤ 6) (h2 : 0 ≤ b.delay ∧ b.delay ≤ 20) (h : Below w.heap.size w w') : CheckPost b w (.returned (.int .i64 n)) w' := ⟨n, rfl, fun _ => ⟨h1, h2⟩, h⟩

def C15 (w : World) (C : Nat) (b : Br) : Prop := w.heap[C]? = some (.cells (cfg b) 24 (0, 0))

set_option maxRecDepth 100000 in
set_option maxHeartbeats 4000000 in
theorem check_any (b : Br) (ms : List Int) (w : World) (hm : IRow w w.heap.size b.ma b.ml ms) : Calls Try.prog 19 #[.agg (cfg b)] w (CheckPost b w) := by
  have hbel : Below w.heap.size w (w.alloc (.cells (cfg b) 24)) := (Below.refl _ _).alloc (Nat.le_refl _) _
  obtain ⟨W, hW⟩ : ∃ W, W = w.alloc (.cells (cfg b) 24) := ⟨_, rfl⟩
  have hC : W.heap[w.heap.size]? = some (.cells (cfg b) 24 (0, 0)) := by rw [hW]; unfold World.alloc; simp
  have hn : W.heap.size = w.heap.size + 1 := by rw [hW]; simp
  have c0 : W.cell? ⟨w.heap.size, 0, none⟩ = some (.int .i64 b.desired) := cell_of_row _ _ _ _ _ _ hC
  have c1 : W.cell? ⟨w.heap.size, 1, none⟩ = some (.int .i64 b.minh) := cell_of_row _ _ _ _ _ _ hC
  have c2 : W.cell? ⟨w.heap.size, 2, none⟩ = some (.int .i64 b.surplus) := cell_of_row _ _ _ _ _ _ hC
  have c3 : W.cell? ⟨w.heap.size, 3, none⟩ = some (.int .i64 b.pool) := cell_of_row _ _ _ _ _ _ hC
  have c4 : W.cell? ⟨w.heap.size, 4, none⟩ = some (.int .i64 b.hookIn) := cell_of_row _ _ _ _ _ _ hC
  have c5 : W.cell? ⟨w.heap.size, 5, none⟩ = some (.int .i64 b.hookOut) := cell_of_row _ _ _ _ _ _ hC
  have c6 : W.cell? ⟨w.heap.size, 6, none⟩ = some (.int .i64 b.warmup) := cell_of_row _ _ _ _ _ _ hC
  have c7 : W.cell? ⟨w.heap.size, 7, none⟩ = some (.int .i64 b.drain) := cell_of_row _ _ _ _ _ _ hC
  have c11 : W.cell? ⟨w.heap.size, 11, none⟩ = some (.int .i64 b.delay) := cell_of_row _ _ _ _ _ _ hC
  obtain ⟨X, hX⟩ : ∃ X, W.alloc (.cells #[.int .i64 b.hookIn, .int .i64 b.hookOut, .int .i64 b.warmup, .int .i64 b.drain, .int .i64 b.delay] 64) = X := ⟨_, rfl⟩
  have hbX : Below w.heap.size w X := by
    rw [← hX, hW]
    exact hbel.alloc (by simp) _
  have hbWX : Below (w.heap.size + 1) W X := by
    rw [← hX]
    exact (Below.refl _ _).alloc (by omega) _
  have hcX : X.heap[w.heap.size + 1]? = some (.cells #[.int .i64 b.hookIn, .int .i64 b.hookOut, .int .i64 b.warmup, .int .i64 b.drain, .int .i64 b.delay] 64 (0, 0)) := by rw [← hX, ← hn]; unfold World.alloc; simp
  have hcells : ∀ i, i < 5 → X.cell? ⟨w.heap.size + 1, i, none⟩ = some (.int .i64 ([b.hookIn, b.hookOut, b.warmup, b.drain, b.delay].getD i 0)) := by
    intro i hi
    rcases i with _ | _ | _ | _ | _ | i
    · exact cell_of_row _ _ _ _ _ _ hcX
    · exact cell_of_row _ _ _ _ _ _ hcX
    · exact cell_of_row _ _ _ _ _ _ hcX
    · exact cell_of_row _ _ _ _ _ _ hcX
    · exact cell_of_row _ _ _ _ _ _ hcX
    · omega
  have HX := Lib.hid (And.intro hbX (And.intro hbWX hcells))
  clear hbX hbWX hcX hcells
  have hW' := hW.symm
  rw [hW'] at hbel
  unfold cfg at hW' ⊢
  clear hW
  have HC := Lib.hid hC
  clear hC
  go_enter Try.func19, Try.ntmps19
  go_wp2_with fail
  refine (within_c _ _ _ _).mono ?_
  rintro e w' ⟨r1, rfl, rfl, q1⟩
  cases r1 with
  | false =>
    go_wp2
    go_ret
    exact .bad hbel
  | true =>
  go_wp2_with fail
  refine (within_c _ _ _ _).mono ?_
  rintro e w' ⟨r2, rfl, rfl, -⟩
  cases r2 with
  | false =>
    go_wp2
    go_ret
    exact .bad hbel
  | true =>
  go_wp2_with fail
  refine (within_c _ _ _ _).mono ?_
  rintro e w' ⟨r2, rfl, rfl, -⟩
  cases r2 with
  | false =>
    go_wp2
    go_ret
    exact .bad hbel
  | true =>
  go_wp2_with fail
  refine (within_c _ _ _ _).mono ?_
  rintro e w' ⟨r2, rfl, rfl, -⟩
  cases r2 with
  | false =>
    go_wp2
    go_ret
    exact .bad hbel
  | true =>
  go_wp2_with fail
  clear hX hW' c0 c1 c2 c3 c4 c5 c6 c7 c11
  go_loop [4] (fun s4 => ∃ i : Nat, i ≤ 5 ∧ s4 = .int .i64 i ∧ Hid (i = 5 → 0 ≤ b.delay ∧ b.delay ≤ 20)) (fun s4 => 5 - (intOf s4).toNat)
  case atStart => exact ⟨0, by omega, rfl, Lib.hid (by omega)⟩
  case round =>
    obtain ⟨i, hi, rfl, hq⟩ := hrel
    by_cases hlt : i < 5
    · have d := HX.out.2.2 i hlt
      generalize hv : [b.hookIn, b.hookOut, b.warmup, b.drain, b.delay].getD i 0 = v at d
      have hv := Lib.hid hv
      have hj : (i : Int) < 5 := by omega
      go_wp2_with fail
      refine (within_c _ _ _ _).mono ?_
      rintro e w' ⟨r2, rfl, rfl, q2⟩
      cases r2 with
      | false =>
        go_wp2
        go_ret
        exact .bad HX.out.1
      | true =>
        go_wp2
        go_round
        case rel =>
          refine ⟨i + 1, by omega, by go_num, Lib.hid ?_⟩
          intro h5
          obtain rfl : i = 4 := by omega
          have := q2.out trivial
          rw [← hv.out] at this
          exact this
        case measure => simp [intOf]; omega
    · obtain rfl : i = 5 := by omega
      have hxC : X.heap[w.heap.size]? = some (.cells (cfg b) 24 (0, 0)) := (HX.out.2.1.block _ (by omega)).trans HC.out
      have g0 : ∀ (w' : World) (n : Int), Below w.heap.size w w' → CheckPost b w (.returned (.int .i64 n)) w' := fun _ n => CheckPost.any n (q1.out trivial) (hq.out rfl)
      have c8 : X.cell? ⟨w.heap.size, 8, none⟩ = some (.int .i64 b.reap) := cell_of_row _ _ _ _ _ _ hxC
      have c9 : X.cell? ⟨w.heap.size, 9, none⟩ = some (.int .i64 b.timeout) := cell_of_row _ _ _ _ _ _ hxC
      have c10 : X.cell? ⟨w.heap.size, 10, none⟩ = some (.int .i64 b.fails) := cell_of_row _ _ _ _ _ _ hxC
      have c12 : X.cell? ⟨w.heap.size, 12, none⟩ = some (.int .i64 b.version) := cell_of_row _ _ _ _ _ _ hxC
      have c14 : X.cell? ⟨w.heap.size, 14, none⟩ = some (.slice b.ma b.ml b.mc) := cell_of_row _ _ _ _ _ _ hxC
      have hbx := HX.out.1
      have hsx := HX.out.2.1.size
      clear HX hbel q1 hq
      go_wp2_with fail
      refine (within_c _ _ _ _).mono ?_
      rintro e w' ⟨r2, rfl, rfl, -⟩
      cases r2 with
      | false =>
        go_wp2
        go_ret
        exact .bad hbx
      | true =>
      go_wp2_with fail
      refine (within_c _ _ _ _).mono ?_
      rintro e w' ⟨r2, rfl, rfl, -⟩
      cases r2 with
      | false =>
        go_wp2
        go_ret
        exact .bad hbx
      | true =>
      go_wp2_with fail
      refine (within_c _ _ _ _).mono ?_
      rintro e w' ⟨r2, rfl, rfl, -⟩
      cases r2 with
      | false =>
        go_wp2
        go_ret
        exact .bad hbx
      | true =>
      go_wp2_with fail
      refine (within_c _ _ _ _).mono ?_
      rintro e w' ⟨r2, rfl, rfl, -⟩
      cases r2 with
      | false =>
        go_wp2
        go_ret
        exact .bad hbx
      | true =>
      by_cases h4 : 4 < (b.ml : Int)
      · go_wp2
        go_ret
        exact .bad hbx
      clear c8 c9 c10 c12
      obtain ⟨hmn, hmc⟩ := hm
      obtain ⟨G, hG⟩ : ∃ G : Nat → Int, ∀ t, G t = ms.getD t 0 := ⟨_, fun _ => rfl⟩
      have HG := Lib.hid hG
      have HM := Lib.hid hmc
      have HQ := Lib.hid hxC
      have G0 := Lib.hid g0
      have HS := Lib.hid (show w.heap.size + 1 ≤ w'.heap.size by omega)
      have HB := Lib.hid hbx
      have HN := Lib.hid hmn
      clear hG hmc hxC g0 hsx hbx hmn
      go_wp2_with fail
      go_loopw [5] (fun s5 wr => ∃ k : Nat, k ≤ b.ml ∧ s5 = .int .i64 k ∧ Hid (Below (w.heap.size + 1) w' wr)) (fun s5 _ => b.ml - (intOf s5).toNat)
      case atStart => exact ⟨0, by omega, rfl, Lib.hid (Below.refl _ _)⟩
      case round =>
        obtain ⟨k, hk, rfl, hB⟩ := hrel
        have hxr := Lib.hid ((hB.out.block w.heap.size (by omega)).trans HQ.out)
        have d14 : wr.cell? ⟨w.heap.size, 14, none⟩ = some (.slice b.ma b.ml b.mc) := cell_of_row _ _ _ _ _ _ hxr.out
        have hbw := Lib.hid (HB.out.trans (hB.out.mono (by omega)))
        by_cases hlt : k < b.ml
        · rcases HM.out with hnil | ⟨bb, off, ha, hlb, hcs⟩
          · have hmn := HN.out; subst hnil; simp at hmn; omega
          have hcw : ∀ t, t < b.ml → wr.cell? ⟨bb, off + t, none⟩ = some (.int .i64 (G t)) := fun t ht => by
            rw [HG.out]
            exact ((hbw.out.cell (p := ⟨bb, off + t, none⟩) hlb).trans (hcs t (by have := HN.out; omega)))
          clear hcs
          have hki : (k : Int) < (b.ml : Int) := by omega
          cases hin : (decide (1 ≤ G k) && decide (G k ≤ 100)) with
          | false =>
            have HW := fun W => Lib.hid (within_d (G k) 1 100 false hin W)
            clear hin
            go_wp2_with fail
            go_quiet (first | (go_at_call 30; refine Calls.quiet_of_same (HW _).out))
            go_wp2
            go_ret
            exact .bad (below_drewN hbw.out _)
          | true =>
            have HW := fun W => Lib.hid (within_d (G k) 1 100 true hin W)
            clear hin
            by_cases hz : 0 < k
            · go_wp2_with fail
              go_quiet (first | (go_at_call 30; refine Calls.quiet_of_same (HW _).out))
              go_wp2
              · go_ret
                exact .bad (below_drewN hbw.out _)
              · go_roundw
                case rel => exact ⟨k + 1, by omega, by go_num, Lib.hid (below_drewN hB.out _)⟩
                case measure => simp [intOf]; omega
            · go_wp2_with fail
              go_quiet (first | (go_at_call 30; refine Calls.quiet_of_same (HW _).out))
              go_wp2
              go_roundw
              case rel => exact ⟨k + 1, by omega, by go_num, Lib.hid (below_drewN hB.out _)⟩
              case measure => simp [intOf]; omega
        · obtain rfl : k = b.ml := by omega
          obtain ⟨f1, f2⟩ := loads24_of hxr.out
          have d0 : wr.cell? ⟨w.heap.size, 0, none⟩ = some (.int .i64 b.desired) := cell_of_row _ _ _ _ _ _ hxr.out
          have d2 : wr.cell? ⟨w.heap.size, 2, none⟩ = some (.int .i64 b.surplus) := cell_of_row _ _ _ _ _ _ hxr.out
          have hsr := Lib.hid (show w.heap.size < wr.heap.size from (Array.getElem?_eq_some_iff.1 hxr.out).1)
          by_cases hd : 0 < b.desired
          · go_wp2_with fail
            have hdr : ∀ n, (wr.drewN n).heap[w.heap.size]? = some (.cells (cfg b) 24 (0, 0)) := fun _ => hxr.out
            have FL : ∀ n, Hid (Calls Try.prog 31 #[.agg #[.int .i64 b.desired, .int .i64 b.minh, .int .i64 b.surplus, .int .i64 b.pool, .int .i64 b.hookIn, .int .i64 b.hookOut, .int .i64 b.warmup, .int .i64 b.drain, .int .i64 b.reap, .int .i64 b.timeout, .int .i64 b.fails, .int .i64 b.delay, .int .i64 b.version, .bool b.skip, .slice b.ma b.ml b.mc]] (wr.drewN n) fun e w' => (∃ n, e = .returned (.int .i64 n)) ∧ Ends b w.heap.size w' ∧ Below w.heap.size w w') := fun n => Lib.hid ((floor_keep b (wr.drewN n) w.heap.size hsr.out (hdr n)).mono fun _ _ ⟨h1, h2, h3⟩ => ⟨h1, h2, (below_drewN hbw.out n).trans (h3.mono (by have := hsr.out; simp; omega))⟩)
            have FL1 := FL 1
            clear hdr
            go_wp2_with fail
            go_region_held3 (fun w' => Loads24 w' (.pointer (some ⟨w.heap.size, 0, none⟩)) ∧ rowOf w' (.pointer (some ⟨w.heap.size, 0, none⟩)) = #[.int .i64 b.desired, .int .i64 b.minh, .int .i64 b.surplus, .int .i64 b.pool, .int .i64 b.hookIn, .int .i64 b.hookOut, .int .i64 b.warmup, .int .i64 b.drain, .int .i64 b.reap, .int .i64 b.timeout, .int .i64 b.fails, .int .i64 b.delay, .int .i64 b.version, .bool b.skip, .slice b.ma b.ml b.mc] ∧ w'.cell? ⟨w.heap.size, 0, none⟩ = some (.int .i64 b.desired) ∧ w'.cell? ⟨w.heap.size, 2, none⟩ = some (.int .i64 b.surplus)) (first | exact ⟨f1, f2, d0, d2⟩ | exact ⟨e1, e2, e3, e4⟩) (first | (go_at_call 31; refine FL1.out.mono ?_; rintro e w' ⟨⟨n, rfl⟩, ⟨e1, e2, e3, e4⟩, hb3⟩))
            clear f1 f2 d0 d2 d14 e1 e2 e3 e4
            go_wp2
            all_goals go_ret
            · exact .bad hb3
            · exact G0.out _ _ hb3
          · have hd' : decide (0 < b.desired) = false := by simpa using hd
            clear hd
            go_wp2_with fail
            go_quiet (fail)
            go_wp2
            go_ret
            exact G0.out _ _ (below_drewN hbw.out _)
end Go.Proofs.Ytpneohekghpkbaa
