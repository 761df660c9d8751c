/- The contracts of numbers, many and refresh, at a pause and at a go. -/
import Derived.Test.YtpneohekghpkbaaN
namespace Go.Proofs.Ytpneohekghpkbaa
open Go.RowKit Go.Shelf
attribute [local go_sem ↓] load_rule
attribute [local go_sem ↓] store_rule

/-- A record's numbers: none, or one that is small. -/
def LRow (w : World) (B : Nat) (v : Value) (l : Option Int) : Prop :=
  match l with
  | none => v = .slice none 0 0
  | some x => ∃ b c, v = .slice (some ⟨b, 0, none⟩) 1 c ∧ b < B ∧ w.cell? ⟨b, 0, none⟩ = some (.int .i64 x) ∧ 0 ≤ x ∧ x ≤ 1099511627776
theorem LRow.below {w w' : World} {N B : Nat} {v : Value} {l : Option Int} (h : LRow w B v l) (hb : Below N w w') (hB : B ≤ N) : LRow w' B v l := by
  cases l with
  | none => exact h
  | some x =>
    obtain ⟨b, c, hv, hlt, hc, h1, h2⟩ := h
    exact ⟨b, c, hv, hlt, (hb.cell (p := ⟨b, 0, none⟩) (show b < N by omega)).trans hc, h1, h2⟩
theorem LRow.mono {w : World} {B B' : Nat} {v : Value} {l : Option Int} (h : LRow w B v l) (hB : B ≤ B') : LRow w B' v l := by
  cases l with
  | none => exact h
  | some x =>
    obtain ⟨b, c, hv, hlt, hc, h1, h2⟩ := h
    exact ⟨b, c, hv, by omega, hc, h1, h2⟩

set_option maxRecDepth 100000 in
theorem numbers_any (v : Value) (l : Option Int) (w : World) (B : Nat) (h : LRow w B v l) : Calls Try.prog 24 #[v] w fun e w' => e = .returned (.bool true) ∧ w' = w := by
  cases l with
  | none =>
    obtain rfl : v = .slice none 0 0 := h
    go_enter Try.func24, Try.ntmps24
    go_wp2_with fail
    go_loop [3] (fun s => s = .int .i64 0) (fun _ => 0)
    case atStart => exact rfl
    case round =>
      subst hrel
      go_wp2
      go_ret
      exact ⟨rfl, rfl⟩
  | some x =>
    obtain ⟨b, c, rfl, -, hc, h1, h2⟩ := h
    have d1 : decide (x < 0) = false := by simp; omega
    have d2 : decide (1099511627776 < x) = false := by simp; omega
    clear h1 h2
    go_enter Try.func24, Try.ntmps24
    go_wp2_with fail
    go_loop [3] (fun s => s = .int .i64 0 ∨ s = .int .i64 1) (fun s => 1 - (intOf s).toNat)
    case atStart => exact .inl rfl
    case round =>
      rcases hrel with rfl | rfl
      · go_wp2
        go_round
        case rel => exact .inr rfl
        case measure => simp [intOf]
      · go_wp2
        go_ret
        exact ⟨rfl, rfl⟩

theorem many14 (w : World) : Calls Try.prog 26 #[.int .u8 14] w fun e w' => e = .returned (.int .i64 1) ∧ w' = w := by
  go_enter Try.func26, Try.ntmps26
  go_wp2
  go_ret
  exact ⟨rfl, rfl⟩
theorem many15 (w : World) : Calls Try.prog 26 #[.int .u8 15] w fun e w' => e = .returned (.int .i64 0) ∧ w' = w := by
  go_enter Try.func26, Try.ntmps26
  go_wp2
  go_ret
  exact ⟨rfl, rfl⟩

theorem BAt.setStepP {W : World} {B : Nat} {b : Br} (h : BAt W B b) (s : Int) : BAt (W.setCell ⟨B, 23, none⟩ (.int .i64 s)) B { b with step := s } := row_set h 23 _

/-- What a pause, or a go, makes of a brain. -/
def refreshB (kind x : Int) (b : Br) : Br :=
  if b.state = 1 then
    (if kind = 14 then (if b.paused = true then b else { b with paused := true, since := x }) else (if b.paused = true then { b with paused := false, step := wrap64 (b.step + 1) } else b))
  else b
def BrPost (b : Br) (w : World) (e : Ending) (w' : World) : Prop := e = .returned (.agg #[.int .i64 b.epoch, .int .i64 b.seq, .bool b.set, .int .i64 b.desired, .int .i64 b.minh, .int .i64 b.surplus, .int .i64 b.pool, .int .i64 b.hookIn, .int .i64 b.hookOut, .int .i64 b.warmup, .int .i64 b.drain, .int .i64 b.reap, .int .i64 b.timeout, .int .i64 b.fails, .int .i64 b.delay, .int .i64 b.version, .bool b.skip, .slice b.ma b.ml b.mc, .slice b.ia b.il b.ic, .slice b.ka b.kl b.kc, .int .u8 b.state, .int .i64 b.ffrom, .int .i64 b.target, .int .i64 b.step, .bool b.paused, .int .i64 b.since, .int .i64 b.rfails]) ∧ Below w.heap.size w w'

/-- The brain's block and the result's, as refresh begins. -/
theorem two_blocks (b : Br) (w : World) : ∃ W1 W2, w.alloc (.cells #[.int .i64 b.epoch, .int .i64 b.seq, .bool b.set, .int .i64 b.desired, .int .i64 b.minh, .int .i64 b.surplus, .int .i64 b.pool, .int .i64 b.hookIn, .int .i64 b.hookOut, .int .i64 b.warmup, .int .i64 b.drain, .int .i64 b.reap, .int .i64 b.timeout, .int .i64 b.fails, .int .i64 b.delay, .int .i64 b.version, .bool b.skip, .slice b.ma b.ml b.mc, .slice b.ia b.il b.ic, .slice b.ka b.kl b.kc, .int .u8 b.state, .int .i64 b.ffrom, .int .i64 b.target, .int .i64 b.step, .bool b.paused, .int .i64 b.since, .int .i64 b.rfails] 30) = W1 ∧ W1.alloc (.cells zB 30) = W2 ∧ W1.heap.size = w.heap.size + 1 ∧ BAt W2 w.heap.size b ∧ BAt W2 (w.heap.size + 1) b0 ∧ Below w.heap.size w W2 ∧ W2.heap.size = w.heap.size + 1 + 1 := by
  refine ⟨_, _, rfl, rfl, by simp, ?_, ?_, ?_, by simp⟩
  · exact (BAt.new w b).below ((Below.refl (w.heap.size + 1) _).alloc (by simp) _) (by omega)
  · have := BAt.new (w.alloc (.cells #[.int .i64 b.epoch, .int .i64 b.seq, .bool b.set, .int .i64 b.desired, .int .i64 b.minh, .int .i64 b.surplus, .int .i64 b.pool, .int .i64 b.hookIn, .int .i64 b.hookOut, .int .i64 b.warmup, .int .i64 b.drain, .int .i64 b.reap, .int .i64 b.timeout, .int .i64 b.fails, .int .i64 b.delay, .int .i64 b.version, .bool b.skip, .slice b.ma b.ml b.mc, .slice b.ia b.il b.ic, .slice b.ka b.kl b.kc, .int .u8 b.state, .int .i64 b.ffrom, .int .i64 b.target, .int .i64 b.step, .bool b.paused, .int .i64 b.since, .int .i64 b.rfails] 30)) b0
    rw [show (w.alloc (.cells #[.int .i64 b.epoch, .int .i64 b.seq, .bool b.set, .int .i64 b.desired, .int .i64 b.minh, .int .i64 b.surplus, .int .i64 b.pool, .int .i64 b.hookIn, .int .i64 b.hookOut, .int .i64 b.warmup, .int .i64 b.drain, .int .i64 b.reap, .int .i64 b.timeout, .int .i64 b.fails, .int .i64 b.delay, .int .i64 b.version, .bool b.skip, .slice b.ma b.ml b.mc, .slice b.ia b.il b.ic, .slice b.ka b.kl b.kc, .int .u8 b.state, .int .i64 b.ffrom, .int .i64 b.target, .int .i64 b.step, .bool b.paused, .int .i64 b.since, .int .i64 b.rfails] 30)).heap.size = w.heap.size + 1 by simp] at this
    exact this
  · exact ((Below.refl _ w).alloc (Nat.le_refl _) _).alloc (by simp) _

set_option maxRecDepth 100000 in
set_option maxHeartbeats 1000000 in
theorem refresh_idle (kind : Int) (hk : kind = 14 ∨ kind = 15) (b : Br) (hs : ¬ b.state = 1) (v : Value) (w : World) : Calls Try.prog 29 #[.agg #[.int .i64 b.epoch, .int .i64 b.seq, .bool b.set, .int .i64 b.desired, .int .i64 b.minh, .int .i64 b.surplus, .int .i64 b.pool, .int .i64 b.hookIn, .int .i64 b.hookOut, .int .i64 b.warmup, .int .i64 b.drain, .int .i64 b.reap, .int .i64 b.timeout, .int .i64 b.fails, .int .i64 b.delay, .int .i64 b.version, .bool b.skip, .slice b.ma b.ml b.mc, .slice b.ia b.il b.ic, .slice b.ka b.kl b.kc, .int .u8 b.state, .int .i64 b.ffrom, .int .i64 b.target, .int .i64 b.step, .bool b.paused, .int .i64 b.since, .int .i64 b.rfails], .int .u8 kind, v] w (BrPost b w) := by
  obtain ⟨W1, W2, hW1, hW2, n1, x, y, bw, n2⟩ := two_blocks b w
  obtain ⟨W3, s1, s2, x3, b3, -, -⟩ := y.stores b
  obtain ⟨l1, l2⟩ := x.facts
  have f20 := x.f20
  have st : (b.state == 1) = false := by simpa using hs
  have HB := Lib.hid (bw.trans (b3 _ (by omega)))
  have HX := Lib.hid x3
  unfold zB at hW2
  clear x y bw b3 n2 x3 hs
  rcases hk with rfl | rfl
  · go_enter Try.func29, Try.ntmps29
    go_wp2
    clear l1 l2 s1 s2 hW1 hW2
    exact bodyPost_ret (results_cell30 rfl _ rfl HX.out) rfl ⟨rfl, HB.out⟩
  · go_enter Try.func29, Try.ntmps29
    go_wp2
    clear l1 l2 s1 s2 hW1 hW2
    exact bodyPost_ret (results_cell30 rfl _ rfl HX.out) rfl ⟨rfl, HB.out⟩

set_option maxRecDepth 100000 in
set_option maxHeartbeats 1000000 in
theorem refresh_same (kind : Int) (b : Br) (hk : kind = 14 ∧ b.paused = true ∨ kind = 15 ∧ b.paused = false) (hs : b.state = 1) (v : Value) (w : World) : Calls Try.prog 29 #[.agg #[.int .i64 b.epoch, .int .i64 b.seq, .bool b.set, .int .i64 b.desired, .int .i64 b.minh, .int .i64 b.surplus, .int .i64 b.pool, .int .i64 b.hookIn, .int .i64 b.hookOut, .int .i64 b.warmup, .int .i64 b.drain, .int .i64 b.reap, .int .i64 b.timeout, .int .i64 b.fails, .int .i64 b.delay, .int .i64 b.version, .bool b.skip, .slice b.ma b.ml b.mc, .slice b.ia b.il b.ic, .slice b.ka b.kl b.kc, .int .u8 b.state, .int .i64 b.ffrom, .int .i64 b.target, .int .i64 b.step, .bool b.paused, .int .i64 b.since, .int .i64 b.rfails], .int .u8 kind, v] w (BrPost b w) := by
  obtain ⟨W1, W2, hW1, hW2, n1, x, y, bw, n2⟩ := two_blocks b w
  obtain ⟨W3, s1, s2, x3, b3, -, -⟩ := y.stores b
  obtain ⟨l1, l2⟩ := x.facts
  have f20 := x.f20
  have f24 := x.f24
  have st : (b.state == 1) = true := by simpa using hs
  have HB := Lib.hid (bw.trans (b3 _ (by omega)))
  have HX := Lib.hid x3
  unfold zB at hW2
  clear x y bw b3 n2 x3 hs
  rcases hk with ⟨rfl, hp⟩ | ⟨rfl, hp⟩
  · rw [hp] at f24
    have HP := Lib.hid hp
    clear hp
    go_enter Try.func29, Try.ntmps29
    go_wp2
    clear l1 l2 s1 s2 hW1 hW2
    exact bodyPost_ret (results_cell30 rfl _ rfl HX.out) rfl ⟨rfl, HB.out⟩
  · rw [hp] at f24
    have HP := Lib.hid hp
    clear hp
    go_enter Try.func29, Try.ntmps29
    go_wp2
    clear l1 l2 s1 s2 hW1 hW2
    exact bodyPost_ret (results_cell30 rfl _ rfl HX.out) rfl ⟨rfl, HB.out⟩

set_option maxRecDepth 100000 in
set_option maxHeartbeats 1000000 in
theorem refresh_pause (b : Br) (x : Int) (hp : b.paused = false) (hs : b.state = 1) (v : Value) (w : World) (hl : LRow w w.heap.size v (some x)) :
    Calls Try.prog 29 #[.agg #[.int .i64 b.epoch, .int .i64 b.seq, .bool b.set, .int .i64 b.desired, .int .i64 b.minh, .int .i64 b.surplus, .int .i64 b.pool, .int .i64 b.hookIn, .int .i64 b.hookOut, .int .i64 b.warmup, .int .i64 b.drain, .int .i64 b.reap, .int .i64 b.timeout, .int .i64 b.fails, .int .i64 b.delay, .int .i64 b.version, .bool b.skip, .slice b.ma b.ml b.mc, .slice b.ia b.il b.ic, .slice b.ka b.kl b.kc, .int .u8 b.state, .int .i64 b.ffrom, .int .i64 b.target, .int .i64 b.step, .bool b.paused, .int .i64 b.since, .int .i64 b.rfails], .int .u8 14, v] w (BrPost { b with paused := true, since := x } w) := by
  obtain ⟨bb, c, rfl, hlt, hc, -, -⟩ := hl
  obtain ⟨W1, W2, hW1, hW2, n1, x2, y2, bw, n2⟩ := two_blocks b w
  have f20 := x2.f20
  have f24 := x2.f24
  rw [hp] at f24
  have g24 := x2.frozen 24
  have x3 := x2.setPaused true
  obtain ⟨W3, hW3, b3, n3, o3⟩ := set_facts (V := W2) (B := w.heap.size) 24 (.bool true)
  rw [hW3] at x3
  have y3 : BAt W3 (w.heap.size + 1) b0 := (o3 _ (by omega)).trans y2
  have bw3 := bw.trans (b3 _ (Nat.le_refl _))
  have c3 : W3.cell? ⟨bb, 0, none⟩ = some (.int .i64 x) := (bw3.cell (p := ⟨bb, 0, none⟩) hlt).trans hc
  have f25 := x3.f25
  have g25 := x3.frozen 25
  have x4 := x3.setSince x
  obtain ⟨W4, hW4, b4, n4, o4⟩ := set_facts (V := W3) (B := w.heap.size) 25 (.int .i64 x)
  rw [hW4] at x4
  have y4 : BAt W4 (w.heap.size + 1) b0 := (o4 _ (by omega)).trans y3
  have bw4 := bw3.trans (b4 _ (Nat.le_refl _))
  obtain ⟨l1, l2⟩ : Loads W4 (.pointer (some ⟨w.heap.size, 0, none⟩)) ∧ rowOf W4 (.pointer (some ⟨w.heap.size, 0, none⟩)) = #[.int .i64 b.epoch, .int .i64 b.seq, .bool b.set, .int .i64 b.desired, .int .i64 b.minh, .int .i64 b.surplus, .int .i64 b.pool, .int .i64 b.hookIn, .int .i64 b.hookOut, .int .i64 b.warmup, .int .i64 b.drain, .int .i64 b.reap, .int .i64 b.timeout, .int .i64 b.fails, .int .i64 b.delay, .int .i64 b.version, .bool b.skip, .slice b.ma b.ml b.mc, .slice b.ia b.il b.ic, .slice b.ka b.kl b.kc, .int .u8 b.state, .int .i64 b.ffrom, .int .i64 b.target, .int .i64 b.step, .bool true, .int .i64 x, .int .i64 b.rfails] := x4.facts
  obtain ⟨W5, s1, s2, x5, b5, -, -⟩ := y4.stores { b with paused := true, since := x }
  dsimp only at s1 s2
  have st : (b.state == 1) = true := by simpa using hs
  have HB := Lib.hid (bw4.trans (b5 _ (by omega)))
  have HX := Lib.hid x5
  have HP := Lib.hid hp
  unfold zB at hW2
  clear x2 y2 bw b3 n2 x3 hs y3 bw3 x4 y4 bw4 b4 n3 n4 o3 o4 b5 x5 hc hlt hp
  go_enter Try.func29, Try.ntmps29
  go_wp2
  clear l1 l2 s1 s2 hW1 hW2 hW3 hW4
  exact bodyPost_ret (results_cell30 rfl _ rfl HX.out) rfl ⟨rfl, HB.out⟩

set_option maxRecDepth 100000 in
set_option maxHeartbeats 1000000 in
theorem refresh_go (b : Br) (hp : b.paused = true) (hs : b.state = 1) (v : Value) (w : World) :
    Calls Try.prog 29 #[.agg #[.int .i64 b.epoch, .int .i64 b.seq, .bool b.set, .int .i64 b.desired, .int .i64 b.minh, .int .i64 b.surplus, .int .i64 b.pool, .int .i64 b.hookIn, .int .i64 b.hookOut, .int .i64 b.warmup, .int .i64 b.drain, .int .i64 b.reap, .int .i64 b.timeout, .int .i64 b.fails, .int .i64 b.delay, .int .i64 b.version, .bool b.skip, .slice b.ma b.ml b.mc, .slice b.ia b.il b.ic, .slice b.ka b.kl b.kc, .int .u8 b.state, .int .i64 b.ffrom, .int .i64 b.target, .int .i64 b.step, .bool b.paused, .int .i64 b.since, .int .i64 b.rfails], .int .u8 15, v] w (BrPost { b with paused := false, step := wrap64 (b.step + 1) } w) := by
  obtain ⟨W1, W2, hW1, hW2, n1, x2, y2, bw, n2⟩ := two_blocks b w
  have f20 := x2.f20
  have f24 := x2.f24
  rw [hp] at f24
  have g24 := x2.frozen 24
  have x3 := x2.setPaused false
  obtain ⟨W3, hW3, b3, n3, o3⟩ := set_facts (V := W2) (B := w.heap.size) 24 (.bool false)
  rw [hW3] at x3
  have y3 : BAt W3 (w.heap.size + 1) b0 := (o3 _ (by omega)).trans y2
  have bw3 := bw.trans (b3 _ (Nat.le_refl _))
  have f23 := x3.f23
  have g23 := x3.frozen 23
  have x4 := x3.setStep (wrap64 (b.step + 1))
  obtain ⟨W4, hW4, b4, n4, o4⟩ := set_facts (V := W3) (B := w.heap.size) 23 (.int .i64 (wrap64 (b.step + 1)))
  rw [hW4] at x4
  have y4 : BAt W4 (w.heap.size + 1) b0 := (o4 _ (by omega)).trans y3
  have bw4 := bw3.trans (b4 _ (Nat.le_refl _))
  obtain ⟨l1, l2⟩ : Loads W4 (.pointer (some ⟨w.heap.size, 0, none⟩)) ∧ rowOf W4 (.pointer (some ⟨w.heap.size, 0, none⟩)) = #[.int .i64 b.epoch, .int .i64 b.seq, .bool b.set, .int .i64 b.desired, .int .i64 b.minh, .int .i64 b.surplus, .int .i64 b.pool, .int .i64 b.hookIn, .int .i64 b.hookOut, .int .i64 b.warmup, .int .i64 b.drain, .int .i64 b.reap, .int .i64 b.timeout, .int .i64 b.fails, .int .i64 b.delay, .int .i64 b.version, .bool b.skip, .slice b.ma b.ml b.mc, .slice b.ia b.il b.ic, .slice b.ka b.kl b.kc, .int .u8 b.state, .int .i64 b.ffrom, .int .i64 b.target, .int .i64 (wrap64 (b.step + 1)), .bool false, .int .i64 b.since, .int .i64 b.rfails] := x4.facts
  obtain ⟨W5, s1, s2, x5, b5, -, -⟩ := y4.stores { b with paused := false, step := wrap64 (b.step + 1) }
  dsimp only at s1 s2
  have st : (b.state == 1) = true := by simpa using hs
  have HB := Lib.hid (bw4.trans (b5 _ (by omega)))
  have HX := Lib.hid x5
  have HP := Lib.hid hp
  unfold zB at hW2
  clear x2 y2 bw b3 n2 x3 hs y3 bw3 x4 y4 bw4 b4 n3 n4 o3 o4 b5 x5 hp
  go_enter Try.func29, Try.ntmps29
  go_wp2
  clear l1 l2 s1 s2 hW1 hW2 hW3 hW4
  exact bodyPost_ret (results_cell30 rfl _ rfl HX.out) rfl ⟨rfl, HB.out⟩

theorem refreshB_pause {b : Br} {x : Int} (hs : b.state = 1) (hp : b.paused = false) : refreshB 14 x b = { b with paused := true, since := x } := by simp [refreshB, hs, hp]
theorem refreshB_paused {b : Br} {x : Int} (hs : b.state = 1) (hp : b.paused = true) : refreshB 14 x b = b := by simp [refreshB, hs, hp]
theorem refreshB_go {b : Br} {x : Int} (hs : b.state = 1) (hp : b.paused = true) : refreshB 15 x b = { b with paused := false, step := wrap64 (b.step + 1) } := by simp [refreshB, hs, hp]
theorem refreshB_going {b : Br} {x : Int} (hs : b.state = 1) (hp : b.paused = false) : refreshB 15 x b = b := by simp [refreshB, hs, hp]
theorem refreshB_idle {b : Br} {k x : Int} (hs : ¬ b.state = 1) : refreshB k x b = b := by simp [refreshB, hs]
theorem br_of {args : Array Value} {w : World} {b' b'' : Br} (e : b'' = b') (h : Calls Try.prog 29 args w (BrPost b' w)) : Calls Try.prog 29 args w (BrPost b'' w) := by
  subst e; exact h
/-- What a record of a pause, or of a go, comes to. -/
theorem refresh_any14 (x : Int) (b : Br) (v : Value) (w : World) (hl : LRow w w.heap.size v (some x)) : Calls Try.prog 29 #[.agg #[.int .i64 b.epoch, .int .i64 b.seq, .bool b.set, .int .i64 b.desired, .int .i64 b.minh, .int .i64 b.surplus, .int .i64 b.pool, .int .i64 b.hookIn, .int .i64 b.hookOut, .int .i64 b.warmup, .int .i64 b.drain, .int .i64 b.reap, .int .i64 b.timeout, .int .i64 b.fails, .int .i64 b.delay, .int .i64 b.version, .bool b.skip, .slice b.ma b.ml b.mc, .slice b.ia b.il b.ic, .slice b.ka b.kl b.kc, .int .u8 b.state, .int .i64 b.ffrom, .int .i64 b.target, .int .i64 b.step, .bool b.paused, .int .i64 b.since, .int .i64 b.rfails], .int .u8 14, v] w (BrPost (refreshB 14 x b) w) := by
  by_cases hs : b.state = 1
  · by_cases hp : b.paused = true
    · exact br_of (refreshB_paused hs hp) (refresh_same 14 b (.inl ⟨rfl, hp⟩) hs v w)
    · have hp := Bool.eq_false_iff.2 hp
      exact br_of (refreshB_pause hs hp) (refresh_pause b x hp hs v w hl)
  · exact br_of (refreshB_idle hs) (refresh_idle 14 (.inl rfl) b hs v w)
theorem refresh_any15 (x : Int) (b : Br) (v : Value) (w : World) : Calls Try.prog 29 #[.agg #[.int .i64 b.epoch, .int .i64 b.seq, .bool b.set, .int .i64 b.desired, .int .i64 b.minh, .int .i64 b.surplus, .int .i64 b.pool, .int .i64 b.hookIn, .int .i64 b.hookOut, .int .i64 b.warmup, .int .i64 b.drain, .int .i64 b.reap, .int .i64 b.timeout, .int .i64 b.fails, .int .i64 b.delay, .int .i64 b.version, .bool b.skip, .slice b.ma b.ml b.mc, .slice b.ia b.il b.ic, .slice b.ka b.kl b.kc, .int .u8 b.state, .int .i64 b.ffrom, .int .i64 b.target, .int .i64 b.step, .bool b.paused, .int .i64 b.since, .int .i64 b.rfails], .int .u8 15, v] w (BrPost (refreshB 15 x b) w) := by
  by_cases hs : b.state = 1
  · by_cases hp : b.paused = true
    · exact br_of (refreshB_go hs hp) (refresh_go b hp hs v w)
    · have hp := Bool.eq_false_iff.2 hp
      exact br_of (refreshB_going hs hp) (refresh_same 15 b (.inr ⟨rfl, hp⟩) hs v w)
  · exact br_of (refreshB_idle hs) (refresh_idle 15 (.inr rfl) b hs v w)
end Go.Proofs.Ytpneohekghpkbaa
