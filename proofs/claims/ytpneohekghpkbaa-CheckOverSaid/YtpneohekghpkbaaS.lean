/- The contract of Apply, at a pause and at a go. -/
import Derived.BigQuiet
import Derived.Deep.QuietTactic
import Derived.Test.YtpneohekghpkbaaR
namespace Go.Proofs.Ytpneohekghpkbaa
open Go.RowKit Go.Shelf
attribute [local go_sem ↓] load_rule
attribute [local go_sem ↓] store_rule

theorem loads_drewN (w : World) (n : Nat) (v : Value) : Loads (w.drewN n) v = Loads w v := rfl
theorem rowOf_drewN (w : World) (n : Nat) (v : Value) : rowOf (w.drewN n) v = rowOf w v := rfl
attribute [local go_sem] loads_drewN rowOf_drewN

theorem br_of' {args : Array Value} {w : World} {b' b'' : Br} (e : b' = b'') (h : Calls Try.prog 29 args w (BrPost b'' w)) : Calls Try.prog 29 args w (BrPost b' w) := by
  subst e; exact h

/-- What Apply leaves. -/
def ApplyPost (kind x : Int) (b : Br) (ms : List Int) (is : List It) (kl : List Kp) (w : World) (e : Ending) (w' : World) : Prop :=
  ∃ a1 c1 a2 c2 a3 c3 c, c = refreshB kind x (b.own a1 c1 a2 c2 a3 c3) ∧ e = .returned (.agg #[.int .i64 c.epoch, .int .i64 c.seq, .bool c.set, .int .i64 c.desired, .int .i64 c.minh, .int .i64 c.surplus, .int .i64 c.pool, .int .i64 c.hookIn, .int .i64 c.hookOut, .int .i64 c.warmup, .int .i64 c.drain, .int .i64 c.reap, .int .i64 c.timeout, .int .i64 c.fails, .int .i64 c.delay, .int .i64 c.version, .bool c.skip, .slice c.ma c.ml c.mc, .slice c.ia c.il c.ic, .slice c.ka c.kl c.kc, .int .u8 c.state, .int .i64 c.ffrom, .int .i64 c.target, .int .i64 c.step, .bool c.paused, .int .i64 c.since, .int .i64 c.rfails]) ∧ w'.ownsRow w.heap.size 3 1 (.slice a1 b.ml c1) b.ml (mvals ms) ∧ w'.ownsRow w.heap.size 48 4 (.slice a2 b.il c2) b.il (tvals is) ∧ w'.ownsRow w.heap.size 32 8 (.slice a3 b.kl c3) b.kl (kvals kl) ∧ Below w.heap.size w w'
/-- The brain's block, the record's and the result's, as Apply begins. -/
theorem three_blocks (b : Br) (k : Int) (v : Value) (w : World) : ∃ W1 W2 W3, w.alloc (.cells #[.int .i64 b.epoch, .int .i64 b.seq, .bool b.set, .int .i64 b.desired, .int .i64 b.minh, .int .i64 b.surplus, .int .i64 b.pool, .int .i64 b.hookIn, .int .i64 b.hookOut, .int .i64 b.warmup, .int .i64 b.drain, .int .i64 b.reap, .int .i64 b.timeout, .int .i64 b.fails, .int .i64 b.delay, .int .i64 b.version, .bool b.skip, .slice b.ma b.ml b.mc, .slice b.ia b.il b.ic, .slice b.ka b.kl b.kc, .int .u8 b.state, .int .i64 b.ffrom, .int .i64 b.target, .int .i64 b.step, .bool b.paused, .int .i64 b.since, .int .i64 b.rfails] 30) = W1 ∧ W1.alloc (.cells #[.int .u8 k, v] 44) = W2 ∧ W2.alloc (.cells zB 30) = W3 ∧ W1.heap.size = w.heap.size + 1 ∧ W2.heap.size = w.heap.size + 1 + 1 ∧ BAt W3 w.heap.size b ∧ W3.heap[w.heap.size + 1]? = some (.cells #[.int .u8 k, v] 44 (0, 0)) ∧ BAt W3 (w.heap.size + 1 + 1) b0 ∧ Below w.heap.size w W3 ∧ W3.heap.size = w.heap.size + 1 + 1 + 1 := by
  refine ⟨_, _, _, rfl, rfl, rfl, by simp, by simp, ?_, ?_, ?_, ?_, by simp⟩
  · exact ((BAt.new w b).below ((Below.refl (w.heap.size + 1) _).alloc (by simp) _) (by omega)).below ((Below.refl (w.heap.size + 1) _).alloc (by simp) _) (by omega)
  · refine (Below.heap_alloc _ _ _ (by simp)).trans ?_
    have := World.alloc_heap_new (w.alloc (.cells #[.int .i64 b.epoch, .int .i64 b.seq, .bool b.set, .int .i64 b.desired, .int .i64 b.minh, .int .i64 b.surplus, .int .i64 b.pool, .int .i64 b.hookIn, .int .i64 b.hookOut, .int .i64 b.warmup, .int .i64 b.drain, .int .i64 b.reap, .int .i64 b.timeout, .int .i64 b.fails, .int .i64 b.delay, .int .i64 b.version, .bool b.skip, .slice b.ma b.ml b.mc, .slice b.ia b.il b.ic, .slice b.ka b.kl b.kc, .int .u8 b.state, .int .i64 b.ffrom, .int .i64 b.target, .int .i64 b.step, .bool b.paused, .int .i64 b.since, .int .i64 b.rfails] 30)) (.cells #[.int .u8 k, v] 44)
    rwa [show (w.alloc (.cells #[.int .i64 b.epoch, .int .i64 b.seq, .bool b.set, .int .i64 b.desired, .int .i64 b.minh, .int .i64 b.surplus, .int .i64 b.pool, .int .i64 b.hookIn, .int .i64 b.hookOut, .int .i64 b.warmup, .int .i64 b.drain, .int .i64 b.reap, .int .i64 b.timeout, .int .i64 b.fails, .int .i64 b.delay, .int .i64 b.version, .bool b.skip, .slice b.ma b.ml b.mc, .slice b.ia b.il b.ic, .slice b.ka b.kl b.kc, .int .u8 b.state, .int .i64 b.ffrom, .int .i64 b.target, .int .i64 b.step, .bool b.paused, .int .i64 b.since, .int .i64 b.rfails] 30)).heap.size = w.heap.size + 1 by simp] at this
  · have := BAt.new ((w.alloc (.cells #[.int .i64 b.epoch, .int .i64 b.seq, .bool b.set, .int .i64 b.desired, .int .i64 b.minh, .int .i64 b.surplus, .int .i64 b.pool, .int .i64 b.hookIn, .int .i64 b.hookOut, .int .i64 b.warmup, .int .i64 b.drain, .int .i64 b.reap, .int .i64 b.timeout, .int .i64 b.fails, .int .i64 b.delay, .int .i64 b.version, .bool b.skip, .slice b.ma b.ml b.mc, .slice b.ia b.il b.ic, .slice b.ka b.kl b.kc, .int .u8 b.state, .int .i64 b.ffrom, .int .i64 b.target, .int .i64 b.step, .bool b.paused, .int .i64 b.since, .int .i64 b.rfails] 30)).alloc (.cells #[.int .u8 k, v] 44)) b0
    rw [show ((w.alloc (.cells #[.int .i64 b.epoch, .int .i64 b.seq, .bool b.set, .int .i64 b.desired, .int .i64 b.minh, .int .i64 b.surplus, .int .i64 b.pool, .int .i64 b.hookIn, .int .i64 b.hookOut, .int .i64 b.warmup, .int .i64 b.drain, .int .i64 b.reap, .int .i64 b.timeout, .int .i64 b.fails, .int .i64 b.delay, .int .i64 b.version, .bool b.skip, .slice b.ma b.ml b.mc, .slice b.ia b.il b.ic, .slice b.ka b.kl b.kc, .int .u8 b.state, .int .i64 b.ffrom, .int .i64 b.target, .int .i64 b.step, .bool b.paused, .int .i64 b.since, .int .i64 b.rfails] 30)).alloc (.cells #[.int .u8 k, v] 44)).heap.size = w.heap.size + 1 + 1 by simp] at this
    exact this
  · exact (((Below.refl _ w).alloc (Nat.le_refl _) _).alloc (by simp) _).alloc (by simp; omega) _

set_option maxRecDepth 100000 in
set_option maxHeartbeats 4000000 in
theorem apply14 (b : Br) (x : Int) (ms : List Int) (is : List It) (kl : List Kp) (vb vc : Nat) (w : World) (hl : LRow w w.heap.size (.slice (some ⟨vb, 0, none⟩) 1 vc) (some x)) (h1 : b.ml ≤ 40) (h2 : b.il ≤ 40) (h3 : b.kl ≤ 40) (hm : Row w w.heap.size b.ma b.ml (mvals ms) 1) (hi : Row w w.heap.size b.ia b.il (tvals is) 4) (hk : Row w w.heap.size b.ka b.kl (kvals kl) 8) :
    Calls Try.prog 18 #[.agg #[.int .i64 b.epoch, .int .i64 b.seq, .bool b.set, .int .i64 b.desired, .int .i64 b.minh, .int .i64 b.surplus, .int .i64 b.pool, .int .i64 b.hookIn, .int .i64 b.hookOut, .int .i64 b.warmup, .int .i64 b.drain, .int .i64 b.reap, .int .i64 b.timeout, .int .i64 b.fails, .int .i64 b.delay, .int .i64 b.version, .bool b.skip, .slice b.ma b.ml b.mc, .slice b.ia b.il b.ic, .slice b.ka b.kl b.kc, .int .u8 b.state, .int .i64 b.ffrom, .int .i64 b.target, .int .i64 b.step, .bool b.paused, .int .i64 b.since, .int .i64 b.rfails], .agg #[.int .u8 14, (.slice (some ⟨vb, 0, none⟩) 1 vc)]] w (ApplyPost 14 x b ms is kl w) := by
  obtain ⟨W1, W2, W3, hW1, hW2, hW3, n1, n2, x3, r3, y3, bw3, n3⟩ := three_blocks b 14 (.slice (some ⟨vb, 0, none⟩) 1 vc) w
  obtain ⟨l1, l2⟩ := x3.facts
  have X3 := Lib.hid x3
  have R3 := Lib.hid r3
  have Y3 := Lib.hid y3
  have B3 := Lib.hid bw3
  have N3 := Lib.hid n3
  have HL := Lib.hid hl
  have HM := Lib.hid hm
  have HI := Lib.hid hi
  have HK := Lib.hid hk
  unfold zB at hW3
  clear x3 r3 y3 bw3 n3 hl hm hi hk
  go_enter Try.func18, Try.ntmps18
  go_wp2_with fail
  refine (own_any b ms is kl W3 h1 h2 h3 ((HM.out.below B3.out (Nat.le_refl _)).mono (by have := N3.out; omega)) ((HI.out.below B3.out (Nat.le_refl _)).mono (by have := N3.out; omega)) ((HK.out.below B3.out (Nat.le_refl _)).mono (by have := N3.out; omega))).mono ?_
  rintro e W4 ⟨a1, c1, a2, c2, a3, c3, rfl, r1, r2, r3, b4⟩
  have hn3 := N3.out
  have x4 := X3.out.below b4 (by omega)
  have y4 := Y3.out.below b4 (by omega)
  have q4 : W4.heap[w.heap.size + 1]? = _ := (b4.block _ (by omega)).trans R3.out
  obtain ⟨W5, s1, s2, x5, b5, n5, o5⟩ := x4.stores (b.own a1 c1 a2 c2 a3 c3)
  unfold Br.own at s1 s2
  dsimp only at s1 s2
  have q5 := (o5 (w.heap.size + 1) (by omega)).trans q4
  have y5 : BAt W5 (w.heap.size + 1 + 1) b0 := (o5 _ (by omega)).trans y4
  have bw5 := (B3.out.trans (b4.mono (by omega))).trans (b5 _ (Nat.le_refl _))
  have f0 : W5.cell? ⟨w.heap.size + 1, 0, none⟩ = some (.int .u8 14) := cell_of_row _ _ _ _ _ _ q5
  have f1 : W5.cell? ⟨w.heap.size + 1, 1, none⟩ = some (.slice (some ⟨vb, 0, none⟩) 1 vc) := cell_of_row _ _ _ _ _ _ q5
  have hl5 := HL.out.below bw5 (Nat.le_refl _)
  obtain ⟨l3, l4⟩ : Loads W5 (.pointer (some ⟨w.heap.size, 0, none⟩)) ∧ rowOf W5 (.pointer (some ⟨w.heap.size, 0, none⟩)) = #[.int .i64 b.epoch, .int .i64 b.seq, .bool b.set, .int .i64 b.desired, .int .i64 b.minh, .int .i64 b.surplus, .int .i64 b.pool, .int .i64 b.hookIn, .int .i64 b.hookOut, .int .i64 b.warmup, .int .i64 b.drain, .int .i64 b.reap, .int .i64 b.timeout, .int .i64 b.fails, .int .i64 b.delay, .int .i64 b.version, .bool b.skip, .slice a1 b.ml c1, .slice a2 b.il c2, .slice a3 b.kl c3, .int .u8 b.state, .int .i64 b.ffrom, .int .i64 b.target, .int .i64 b.step, .bool b.paused, .int .i64 b.since, .int .i64 b.rfails] := x5.facts
  have Y5 := Lib.hid y5
  have B5 := Lib.hid bw5
  have HL5 := Lib.hid hl5
  have R5 := Lib.hid (And.intro (owns_other r1 (by omega) (b5 _ (Nat.le_refl _)) o5) (And.intro (owns_other r2 (by omega) (b5 _ (Nat.le_refl _)) o5) (owns_other r3 (by omega) (b5 _ (Nat.le_refl _)) o5)))
  clear l1 l2 x4 y4 q4 x5 b5 n5 o5 q5 y5 bw5 hl5 b4 hn3 r1 r2 r3
  go_wp2_with fail
  refine (numbers_any _ _ W5 w.heap.size HL5.out).mono ?_
  rintro e W6 ⟨rfl, hw⟩
  obtain rfl := hw.symm
  clear s1 s2 hW1 hW2 hW3
  go_wp2_with fail
  go_quiet (first | (go_at_call 26; refine Calls.quiet_of_same (many14 _)))
  go_wp2_with fail
  obtain ⟨c, hc⟩ : ∃ c, c = refreshB 14 x (b.own a1 c1 a2 c2 a3 c3) := ⟨_, rfl⟩
  refine (br_of' hc (refresh_any14 x (b.own a1 c1 a2 c2 a3 c3) _ _ ((HL5.out.below (below_drewN (Below.refl _ W5) _) (Nat.le_refl _)).mono B5.out.size))).mono ?_
  rintro e W7 ⟨rfl, b7⟩
  have HC := Lib.hid hc
  clear hc
  have hs5 := B5.out.size
  have h53 := R5.out.1
  have b57 : Below W5.heap.size W5 W7 := (below_drewN (Below.refl _ W5) _).trans b7
  have y7 := Y5.out.below b57 Y5.out.lt
  obtain ⟨W8, s1, s2, y8, b8, n8, o8⟩ := y7.stores c
  have e8 : ∀ {e k n : Nat} {v : Value} {xs : List Value}, W5.ownsRow W3.heap.size e k v n xs → W8.ownsRow W3.heap.size e k v n xs := fun h => owns_other (owns_below h b57 (Nat.le_refl _)) (by have := N3.out; omega) (b8 _ (Nat.le_refl _)) o8
  have q1 := owns_mono (e8 R5.out.1) (show w.heap.size ≤ _ by have := N3.out; omega)
  have q2 := owns_mono (e8 R5.out.2.1) (show w.heap.size ≤ _ by have := N3.out; omega)
  have q3 := owns_mono (e8 R5.out.2.2) (show w.heap.size ≤ _ by have := N3.out; omega)
  have bw8 := (B5.out.trans (b57.mono hs5)).trans (b8 _ (by omega))
  clear l3 l4 f0 f1 hs5 h53 b57 b7 y7 b8 n8 o8 e8
  go_wp2
  clear s1 s2
  exact bodyPost_ret (results_cell30 rfl _ rfl y8) rfl ⟨a1, c1, a2, c2, a3, c3, c, HC.out, rfl, q1, q2, q3, bw8⟩

set_option maxRecDepth 100000 in
set_option maxHeartbeats 4000000 in
theorem apply15 (b : Br) (x : Int) (ms : List Int) (is : List It) (kl : List Kp) (w : World) (hl : LRow w w.heap.size (.slice none 0 0) none) (h1 : b.ml ≤ 40) (h2 : b.il ≤ 40) (h3 : b.kl ≤ 40) (hm : Row w w.heap.size b.ma b.ml (mvals ms) 1) (hi : Row w w.heap.size b.ia b.il (tvals is) 4) (hk : Row w w.heap.size b.ka b.kl (kvals kl) 8) :
    Calls Try.prog 18 #[.agg #[.int .i64 b.epoch, .int .i64 b.seq, .bool b.set, .int .i64 b.desired, .int .i64 b.minh, .int .i64 b.surplus, .int .i64 b.pool, .int .i64 b.hookIn, .int .i64 b.hookOut, .int .i64 b.warmup, .int .i64 b.drain, .int .i64 b.reap, .int .i64 b.timeout, .int .i64 b.fails, .int .i64 b.delay, .int .i64 b.version, .bool b.skip, .slice b.ma b.ml b.mc, .slice b.ia b.il b.ic, .slice b.ka b.kl b.kc, .int .u8 b.state, .int .i64 b.ffrom, .int .i64 b.target, .int .i64 b.step, .bool b.paused, .int .i64 b.since, .int .i64 b.rfails], .agg #[.int .u8 15, (.slice none 0 0)]] w (ApplyPost 15 x b ms is kl w) := by
  obtain ⟨W1, W2, W3, hW1, hW2, hW3, n1, n2, x3, r3, y3, bw3, n3⟩ := three_blocks b 15 (.slice none 0 0) w
  obtain ⟨l1, l2⟩ := x3.facts
  have X3 := Lib.hid x3
  have R3 := Lib.hid r3
  have Y3 := Lib.hid y3
  have B3 := Lib.hid bw3
  have N3 := Lib.hid n3
  have HL := Lib.hid hl
  have HM := Lib.hid hm
  have HI := Lib.hid hi
  have HK := Lib.hid hk
  unfold zB at hW3
  clear x3 r3 y3 bw3 n3 hl hm hi hk
  go_enter Try.func18, Try.ntmps18
  go_wp2_with fail
  refine (own_any b ms is kl W3 h1 h2 h3 ((HM.out.below B3.out (Nat.le_refl _)).mono (by have := N3.out; omega)) ((HI.out.below B3.out (Nat.le_refl _)).mono (by have := N3.out; omega)) ((HK.out.below B3.out (Nat.le_refl _)).mono (by have := N3.out; omega))).mono ?_
  rintro e W4 ⟨a1, c1, a2, c2, a3, c3, rfl, r1, r2, r3, b4⟩
  have hn3 := N3.out
  have x4 := X3.out.below b4 (by omega)
  have y4 := Y3.out.below b4 (by omega)
  have q4 : W4.heap[w.heap.size + 1]? = _ := (b4.block _ (by omega)).trans R3.out
  obtain ⟨W5, s1, s2, x5, b5, n5, o5⟩ := x4.stores (b.own a1 c1 a2 c2 a3 c3)
  unfold Br.own at s1 s2
  dsimp only at s1 s2
  have q5 := (o5 (w.heap.size + 1) (by omega)).trans q4
  have y5 : BAt W5 (w.heap.size + 1 + 1) b0 := (o5 _ (by omega)).trans y4
  have bw5 := (B3.out.trans (b4.mono (by omega))).trans (b5 _ (Nat.le_refl _))
  have f0 : W5.cell? ⟨w.heap.size + 1, 0, none⟩ = some (.int .u8 15) := cell_of_row _ _ _ _ _ _ q5
  have f1 : W5.cell? ⟨w.heap.size + 1, 1, none⟩ = some (.slice none 0 0) := cell_of_row _ _ _ _ _ _ q5
  have hl5 := HL.out.below bw5 (Nat.le_refl _)
  obtain ⟨l3, l4⟩ : Loads W5 (.pointer (some ⟨w.heap.size, 0, none⟩)) ∧ rowOf W5 (.pointer (some ⟨w.heap.size, 0, none⟩)) = #[.int .i64 b.epoch, .int .i64 b.seq, .bool b.set, .int .i64 b.desired, .int .i64 b.minh, .int .i64 b.surplus, .int .i64 b.pool, .int .i64 b.hookIn, .int .i64 b.hookOut, .int .i64 b.warmup, .int .i64 b.drain, .int .i64 b.reap, .int .i64 b.timeout, .int .i64 b.fails, .int .i64 b.delay, .int .i64 b.version, .bool b.skip, .slice a1 b.ml c1, .slice a2 b.il c2, .slice a3 b.kl c3, .int .u8 b.state, .int .i64 b.ffrom, .int .i64 b.target, .int .i64 b.step, .bool b.paused, .int .i64 b.since, .int .i64 b.rfails] := x5.facts
  have Y5 := Lib.hid y5
  have B5 := Lib.hid bw5
  have HL5 := Lib.hid hl5
  have R5 := Lib.hid (And.intro (owns_other r1 (by omega) (b5 _ (Nat.le_refl _)) o5) (And.intro (owns_other r2 (by omega) (b5 _ (Nat.le_refl _)) o5) (owns_other r3 (by omega) (b5 _ (Nat.le_refl _)) o5)))
  clear l1 l2 x4 y4 q4 x5 b5 n5 o5 q5 y5 bw5 hl5 b4 hn3 r1 r2 r3
  go_wp2_with fail
  refine (numbers_any _ _ W5 w.heap.size HL5.out).mono ?_
  rintro e W6 ⟨rfl, hw⟩
  obtain rfl := hw.symm
  clear s1 s2 hW1 hW2 hW3
  go_wp2_with fail
  go_quiet (first | (go_at_call 26; refine Calls.quiet_of_same (many15 _)))
  go_wp2_with fail
  obtain ⟨c, hc⟩ : ∃ c, c = refreshB 15 x (b.own a1 c1 a2 c2 a3 c3) := ⟨_, rfl⟩
  refine (br_of' hc (refresh_any15 x (b.own a1 c1 a2 c2 a3 c3) _ _)).mono ?_
  rintro e W7 ⟨rfl, b7⟩
  have HC := Lib.hid hc
  clear hc
  have hs5 := B5.out.size
  have h53 := R5.out.1
  have b57 : Below W5.heap.size W5 W7 := (below_drewN (Below.refl _ W5) _).trans b7
  have y7 := Y5.out.below b57 Y5.out.lt
  obtain ⟨W8, s1, s2, y8, b8, n8, o8⟩ := y7.stores c
  have e8 : ∀ {e k n : Nat} {v : Value} {xs : List Value}, W5.ownsRow W3.heap.size e k v n xs → W8.ownsRow W3.heap.size e k v n xs := fun h => owns_other (owns_below h b57 (Nat.le_refl _)) (by have := N3.out; omega) (b8 _ (Nat.le_refl _)) o8
  have q1 := owns_mono (e8 R5.out.1) (show w.heap.size ≤ _ by have := N3.out; omega)
  have q2 := owns_mono (e8 R5.out.2.1) (show w.heap.size ≤ _ by have := N3.out; omega)
  have q3 := owns_mono (e8 R5.out.2.2) (show w.heap.size ≤ _ by have := N3.out; omega)
  have bw8 := (B5.out.trans (b57.mono hs5)).trans (b8 _ (by omega))
  clear l3 l4 f0 f1 hs5 h53 b57 b7 y7 b8 n8 o8 e8
  go_wp2
  clear s1 s2
  exact bodyPost_ret (results_cell30 rfl _ rfl y8) rfl ⟨a1, c1, a2, c2, a3, c3, c, HC.out, rfl, q1, q2, q3, bw8⟩
end Go.Proofs.Ytpneohekghpkbaa
