/- The contract of Own. -/
import Derived.Test.YtpneohekghpkbaaM
namespace Go.Proofs.Ytpneohekghpkbaa
open Go.RowKit Go.Shelf
attribute [local go_sem ↓] load_rule
attribute [local go_sem ↓] store_rule

theorem BAt.setMarks {W : World} {B : Nat} {b : Br} (h : BAt W B b) (a : Option Addr) (l c : Nat) : BAt (W.setCell ⟨B, 17, none⟩ (.slice a l c)) B { b with ma := a, ml := l, mc := c } := row_set h 17 _
theorem BAt.setIntents {W : World} {B : Nat} {b : Br} (h : BAt W B b) (a : Option Addr) (l c : Nat) : BAt (W.setCell ⟨B, 18, none⟩ (.slice a l c)) B { b with ia := a, il := l, ic := c } := row_set h 18 _

/-- A whole brain is stored into a block that holds one. -/
theorem BAt.stores {W : World} {B : Nat} {b : Br} (h : BAt W B b) (b' : Br) :
    ∃ W2, Stores W (.pointer (some ⟨B, 0, none⟩)) (.agg #[.int .i64 b'.epoch, .int .i64 b'.seq, .bool b'.set, .int .i64 b'.desired, .int .i64 b'.minh, .int .i64 b'.surplus, .int .i64 b'.pool, .int .i64 b'.hookIn, .int .i64 b'.hookOut, .int .i64 b'.warmup, .int .i64 b'.drain, .int .i64 b'.reap, .int .i64 b'.timeout, .int .i64 b'.fails, .int .i64 b'.delay, .int .i64 b'.version, .bool b'.skip, .slice b'.ma b'.ml b'.mc, .slice b'.ia b'.il b'.ic, .slice b'.ka b'.kl b'.kc, .int .u8 b'.state, .int .i64 b'.ffrom, .int .i64 b'.target, .int .i64 b'.step, .bool b'.paused, .int .i64 b'.since, .int .i64 b'.rfails]) ∧ storedRow W (.pointer (some ⟨B, 0, none⟩)) (.agg #[.int .i64 b'.epoch, .int .i64 b'.seq, .bool b'.set, .int .i64 b'.desired, .int .i64 b'.minh, .int .i64 b'.surplus, .int .i64 b'.pool, .int .i64 b'.hookIn, .int .i64 b'.hookOut, .int .i64 b'.warmup, .int .i64 b'.drain, .int .i64 b'.reap, .int .i64 b'.timeout, .int .i64 b'.fails, .int .i64 b'.delay, .int .i64 b'.version, .bool b'.skip, .slice b'.ma b'.ml b'.mc, .slice b'.ia b'.il b'.ic, .slice b'.ka b'.kl b'.kc, .int .u8 b'.state, .int .i64 b'.ffrom, .int .i64 b'.target, .int .i64 b'.step, .bool b'.paused, .int .i64 b'.since, .int .i64 b'.rfails]) = W2 ∧ BAt W2 B b' ∧ (∀ N, N ≤ B → Below N W W2) ∧ W2.heap.size = W.heap.size ∧ ∀ j, j ≠ B → W2.heap[j]? = W.heap[j]? := by
  refine ⟨_, ⟨B, _, _, rfl, rfl, h, rfl, rfl, by simp [Value.oneCell']⟩, rfl, ?_, ?_, ?_, fun j hj => setRow_other W B j _ hj⟩
  · exact setRow_heap W B _ _ 30 _ h
  · intro N hN
    refine ⟨rfl, rfl, rfl, ?_, fun k hk => setRow_other W B k _ (by omega)⟩
    simp [storedRow, World.setRow]
  · simp [storedRow, World.setRow]

/-- The brain with slices of its own. -/
def Br.own (b : Br) (a1 : Option Addr) (c1 : Nat) (a2 : Option Addr) (c2 : Nat) (a3 : Option Addr) (c3 : Nat) : Br := { b with ma := a1, mc := c1, ia := a2, ic := c2, ka := a3, kc := c3 }

theorem results_cell30 {fn : Func} {k : Nat} (h : fn.results = #[.cell k 30]) (tmps : Array Value) {w : World} {B : Nat} {b : Br} (ht : tmps.getD k undef = .pointer (some ⟨B, 0, none⟩)) (hb : BAt w B b) : (results fn tmps).run Try.prog w = .ok (.agg #[.int .i64 b.epoch, .int .i64 b.seq, .bool b.set, .int .i64 b.desired, .int .i64 b.minh, .int .i64 b.surplus, .int .i64 b.pool, .int .i64 b.hookIn, .int .i64 b.hookOut, .int .i64 b.warmup, .int .i64 b.drain, .int .i64 b.reap, .int .i64 b.timeout, .int .i64 b.fails, .int .i64 b.delay, .int .i64 b.version, .bool b.skip, .slice b.ma b.ml b.mc, .slice b.ia b.il b.ic, .slice b.ka b.kl b.kc, .int .u8 b.state, .int .i64 b.ffrom, .int .i64 b.target, .int .i64 b.step, .bool b.paused, .int .i64 b.since, .int .i64 b.rfails]) w := by
  have hl := run_load30 hb
  have ht' : tmps[k]?.getD undef = .pointer (some ⟨B, 0, none⟩) := by simpa using ht
  simp [results, h, ht', asAddr, hl]
theorem row_own {w : World} {base e n k c : Nat} {a : Option Addr} {xs : List Value} (h : w.ownsRow base e k (.slice a n c) n xs) : Row w w.heap.size a n xs k := by
  obtain ⟨a', c', hv, r⟩ := Row.of_own h
  injection hv with h1 h2 h3
  subst h1
  exact r

/-- What Own leaves: a brain with slices of its own, that read as the old ones did. -/
def OwnPost (b : Br) (ms : List Int) (is : List It) (kl : List Kp) (w : World) (e : Ending) (w' : World) : Prop :=
  ∃ a1 c1 a2 c2 a3 c3, e = .returned (.agg #[.int .i64 b.epoch, .int .i64 b.seq, .bool b.set, .int .i64 b.desired, .int .i64 b.minh, .int .i64 b.surplus, .int .i64 b.pool, .int .i64 b.hookIn, .int .i64 b.hookOut, .int .i64 b.warmup, .int .i64 b.drain, .int .i64 b.reap, .int .i64 b.timeout, .int .i64 b.fails, .int .i64 b.delay, .int .i64 b.version, .bool b.skip, .slice a1 b.ml c1, .slice a2 b.il c2, .slice a3 b.kl c3, .int .u8 b.state, .int .i64 b.ffrom, .int .i64 b.target, .int .i64 b.step, .bool b.paused, .int .i64 b.since, .int .i64 b.rfails]) ∧ w'.ownsRow w.heap.size 3 1 (.slice a1 b.ml c1) b.ml (mvals ms) ∧ w'.ownsRow w.heap.size 48 4 (.slice a2 b.il c2) b.il (tvals is) ∧
    w'.ownsRow w.heap.size 32 8 (.slice a3 b.kl c3) b.kl (kvals kl) ∧ Below w.heap.size w w'

theorem owns_below {w w' : World} {N base e k n : Nat} {v : Value} {xs : List Value} (h : w.ownsRow base e k v n xs) (hb : Below N w w') (hN : w.heap.size ≤ N) : w'.ownsRow base e k v n xs :=
  h.kept (row := none) ⟨hb.os, hb.tape, hb.output, hb.size, fun j hj _ => hb.block j (by omega)⟩ (by cases v.ownBlock <;> simp)
theorem owns_mono {w : World} {base base' e k n : Nat} {v : Value} {xs : List Value} (h : w.ownsRow base e k v n xs) (hb : base' ≤ base) : w.ownsRow base' e k v n xs :=
  ⟨h.1, h.2.imp id fun ⟨g, cap, cur, h1, h2, h3⟩ => ⟨g, cap, cur, h1, Nat.le_trans hb h2, h3⟩⟩
theorem owns_other {w w' : World} {B base e k n : Nat} {v : Value} {xs : List Value} (h : w.ownsRow base e k v n xs) (hB : B < base) (hb : Below B w w') (ho : ∀ j, j ≠ B → w'.heap[j]? = w.heap[j]?) : w'.ownsRow base e k v n xs :=
  h.kept (row := some B) ⟨hb.os, hb.tape, hb.output, hb.size, fun j _ hj => ho j (fun e => hj (by rw [e]))⟩ (by
    cases hv : v.ownBlock with
    | none => exact .inl rfl
    | some g => right; intro he; injection he with he; have := (h.lt g hv).1; omega)
/-- What is told of a field that is written. -/
theorem set_facts {V : World} {B : Nat} (i : Nat) (v : Value) : ∃ U, V.setCell ⟨B, i, none⟩ v = U ∧ (∀ N, N ≤ B → Below N V U) ∧ U.heap.size = V.heap.size ∧ ∀ j, j ≠ B → U.heap[j]? = V.heap[j]? :=
  ⟨_, rfl, fun N hN => (Below.refl _ _).setCell (p := ⟨B, i, none⟩) hN _, by simp [World.setCell], fun j hj => by simp [World.setCell, Array.getElem?_modify, Ne.symm hj]⟩
/-- An empty slice is laid. -/
theorem lit_facts (U : World) (e k : Nat) : ∃ W, U.alloc (.cells #[] e) = W ∧ W.ownsRow U.heap.size e k (.slice (some ⟨U.heap.size, 0, none⟩) 0 0) 0 [] ∧ Below U.heap.size U W ∧ W.heap.size = U.heap.size + 1 :=
  ⟨_, rfl, World.ownsRow_lit U #[] 0 (Nat.le_refl _) (by decide) (by simp), (Below.refl _ _).alloc (Nat.le_refl _) _, by simp⟩

set_option maxRecDepth 100000 in
set_option maxHeartbeats 4000000 in
theorem own_any (b : Br) (ms : List Int) (is : List It) (kl : List Kp) (w : World) (h1 : b.ml ≤ 40) (h2 : b.il ≤ 40) (h3 : b.kl ≤ 40) (hm : Row w w.heap.size b.ma b.ml (mvals ms) 1) (hi : Row w w.heap.size b.ia b.il (tvals is) 4) (hk : Row w w.heap.size b.ka b.kl (kvals kl) 8) :
    Calls Try.prog 12 #[.agg #[.int .i64 b.epoch, .int .i64 b.seq, .bool b.set, .int .i64 b.desired, .int .i64 b.minh, .int .i64 b.surplus, .int .i64 b.pool, .int .i64 b.hookIn, .int .i64 b.hookOut, .int .i64 b.warmup, .int .i64 b.drain, .int .i64 b.reap, .int .i64 b.timeout, .int .i64 b.fails, .int .i64 b.delay, .int .i64 b.version, .bool b.skip, .slice b.ma b.ml b.mc, .slice b.ia b.il b.ic, .slice b.ka b.kl b.kc, .int .u8 b.state, .int .i64 b.ffrom, .int .i64 b.target, .int .i64 b.step, .bool b.paused, .int .i64 b.since, .int .i64 b.rfails]] w (OwnPost b ms is kl w) := by
  obtain ⟨i3, hi3, hy0, hy1, hy2⟩ := info_parts info3
  obtain ⟨i48, hi48, hx0, hx1, hx2⟩ := info_parts info48
  obtain ⟨i32, hi32, hz0, hz1, hz2⟩ := info_parts info32
  obtain ⟨W1, hW1⟩ : ∃ W1, w.alloc (.cells #[.int .i64 b.epoch, .int .i64 b.seq, .bool b.set, .int .i64 b.desired, .int .i64 b.minh, .int .i64 b.surplus, .int .i64 b.pool, .int .i64 b.hookIn, .int .i64 b.hookOut, .int .i64 b.warmup, .int .i64 b.drain, .int .i64 b.reap, .int .i64 b.timeout, .int .i64 b.fails, .int .i64 b.delay, .int .i64 b.version, .bool b.skip, .slice b.ma b.ml b.mc, .slice b.ia b.il b.ic, .slice b.ka b.kl b.kc, .int .u8 b.state, .int .i64 b.ffrom, .int .i64 b.target, .int .i64 b.step, .bool b.paused, .int .i64 b.since, .int .i64 b.rfails] 30) = W1 := ⟨_, rfl⟩
  obtain ⟨W2, hW2⟩ : ∃ W2, W1.alloc (.cells zB 30) = W2 := ⟨_, rfl⟩
  have x1 : BAt W1 w.heap.size b := by rw [← hW1]; exact BAt.new w b
  have n1 : W1.heap.size = w.heap.size + 1 := by rw [← hW1]; simp
  have x2' : BAt W2 W1.heap.size b0 := by rw [← hW2]; exact BAt.new W1 b0
  have n2 : W2.heap.size = w.heap.size + 1 + 1 := by rw [← hW2]; simp [n1]
  have b12 : Below W1.heap.size W1 W2 := by rw [← hW2]; exact (Below.refl _ _).alloc (Nat.le_refl _) _
  have x2 : BAt W2 w.heap.size b := x1.below b12 (by omega)
  have bw1 : Below w.heap.size w W1 := by rw [← hW1]; exact (Below.refl _ _).alloc (Nat.le_refl _) _
  have bw2 : Below w.heap.size w W2 := bw1.trans (b12.mono (by omega))
  rw [n1] at x2'
  unfold zB at hW2
  obtain ⟨W3, hW3⟩ : ∃ W3, W2.alloc (.cells #[] 3) = W3 := ⟨_, rfl⟩
  have o3 : W3.ownsRow (w.heap.size + 1 + 1) 3 1 (.slice (some ⟨w.heap.size + 1 + 1, 0, none⟩) 0 0) 0 [] := by
    rw [← hW3, ← n2]; exact World.ownsRow_lit W2 #[] 0 (Nat.le_refl _) (by decide) rfl
  have b23 : Below (w.heap.size + 1 + 1) W2 W3 := by rw [← hW3]; exact (Below.refl _ _).alloc (by omega) _
  have n3 : W3.heap.size = w.heap.size + 1 + 1 + 1 := by rw [← hW3]; simp [n2]
  have x3 := x2.below b23 (by omega)
  have y3 := x2'.below b23 (by omega)
  have f17 := x3.f17
  have bw3 := bw2.trans (b23.mono (by omega))
  have X3 := Lib.hid x3
  have Y3 := Lib.hid y3
  have O3 := Lib.hid o3
  have BW3 := Lib.hid bw3
  have N3 := Lib.hid n3
  have HM := Lib.hid (hm.below bw3 (Nat.le_refl _))
  have HI := Lib.hid (hi.below bw3 (Nat.le_refl _))
  have HK := Lib.hid (hk.below bw3 (Nat.le_refl _))
  clear x1 x2' b12 x2 bw1 bw2 o3 b23 n3 x3 y3 bw3 hm hi hk
  go_enter Try.func12, Try.ntmps12
  go_wp2_with (first
    | (at_builtin; refine wpList_append_new rfl _ _ 22 rfl (w.heap.size + 1 + 1) 3 i3 (.int .i64 0) 1 8 Try.underlying22 hi3 hy0 hy1 hy2 rfl (by decide) _ rfl O3.out w.heap.size b.ma b.ml b.mc (mvals ms) rfl HM.out (mvals_one ms) (by unfold maxLen; omega) (by omega) (by have := N3.out; omega) ?_; intro a1 c1 V1 ho1 r1 e1
       have x4 := X3.out.below e1 (by omega)
       have y4 := Y3.out.below e1 (by omega)
       have hs1 := e1.size
       have hn3 := N3.out
       have g17 := x4.frozen 17
       have d17 := x4.f17
       have u1 := x4.setMarks a1 b.ml c1
       obtain ⟨U1, hU1, bu1, su1, oth1⟩ := set_facts (V := V1) (B := w.heap.size) 17 (.slice a1 b.ml c1)
       rw [hU1] at u1
       have z1 : BAt U1 (w.heap.size + 1) b0 := (oth1 _ (by omega)).trans y4
       have ho1' := owns_other ho1 (by omega) (bu1 _ (Nat.le_refl _)) oth1
       obtain ⟨W4, hW4, o4, b4, n4⟩ := lit_facts U1 48 4
       have bw4 := ((BW3.out.trans (e1.mono (by omega))).trans (bu1 _ (Nat.le_refl _))).trans (b4.mono (by omega))
       have x5 := u1.below b4 (by omega)
       have f18 := x5.f18
       have HI4 := Lib.hid (HI.out.below (((e1.mono (by omega)).trans (bu1 _ (Nat.le_refl _))).trans (b4.mono (by omega))) (Nat.le_refl _))
       have HK4 := Lib.hid (HK.out.below (((e1.mono (by omega)).trans (bu1 _ (Nat.le_refl _))).trans (b4.mono (by omega))) (Nat.le_refl _))
       have X5 := Lib.hid x5
       have Y5 := Lib.hid (z1.below b4 (by omega))
       have OM4 := Lib.hid (And.intro ho1' b4)
       have O4 := Lib.hid o4
       have BW4 := Lib.hid bw4
       have S4 := Lib.hid (show w.heap.size + 1 + 1 ≤ U1.heap.size ∧ W4.heap.size = U1.heap.size + 1 from ⟨by omega, n4⟩)
       clear x4 y4 hs1 hn3 u1 bu1 su1 oth1 z1 ho1 ho1' r1 o4 b4 n4 bw4 x5 e1)
    | (at_builtin; refine wpList_append_new rfl _ _ 25 rfl U1.heap.size 48 i48 (.agg #[.int .i64 0, .int .i64 0, .int .i64 0, .bool false]) 4 32 Try.underlying25 hi48 hx0 hx1 hx2 rfl (by decide) _ rfl O4.out w.heap.size b.ia b.il b.ic (tvals is) rfl HI4.out (tvals_one is) (by unfold maxLen; omega) (by omega) (by have := S4.out.2; omega) ?_; intro a2 c2 V2 ho2 r2 e2
       have x6 := X5.out.below e2 (by have := S4.out; omega)
       have y6 := Y5.out.below e2 (by have := S4.out; omega)
       have hs2 := e2.size
       have hn4 := S4.out
       have om6 := owns_below OM4.out.1 (OM4.out.2.trans e2) (Nat.le_refl _)
       have g18 := x6.frozen 18
       have d18 := x6.f18
       have u2 := x6.setIntents a2 b.il c2
       obtain ⟨U2, hU2, bu2, su2, oth2⟩ := set_facts (V := V2) (B := w.heap.size) 18 (.slice a2 b.il c2)
       rw [hU2] at u2
       have z2 : BAt U2 (w.heap.size + 1) b0 := (oth2 _ (by omega)).trans y6
       have ho2' := owns_other ho2 (by omega) (bu2 _ (Nat.le_refl _)) oth2
       have om6' := owns_other om6 (by omega) (bu2 _ (Nat.le_refl _)) oth2
       obtain ⟨W5, hW5, o5, b5, n5⟩ := lit_facts U2 32 8
       have bk := ((e2.mono (by omega : w.heap.size ≤ _)).trans (bu2 _ (Nat.le_refl _))).trans (b5.mono (by omega))
       have bw5 := BW4.out.trans bk
       have x7 := u2.below b5 (by omega)
       have f19 := x7.f19
       have HK5 := Lib.hid (HK4.out.below bk (Nat.le_refl _))
       have X7 := Lib.hid x7
       have Y7 := Lib.hid (z2.below b5 (by omega))
       have OM5 := Lib.hid (And.intro om6' (And.intro ho2' b5))
       have O5 := Lib.hid o5
       have BW5 := Lib.hid bw5
       have S5 := Lib.hid (show w.heap.size + 1 + 1 ≤ U1.heap.size ∧ U1.heap.size ≤ U2.heap.size ∧ W5.heap.size = U2.heap.size + 1 from ⟨by omega, by omega, n5⟩)
       clear x6 y6 hs2 hn4 u2 bu2 su2 oth2 z2 ho2 ho2' om6 om6' r2 o5 b5 n5 bw5 x7 e2 bk f17 g17 d17 f18)
    | (at_builtin; refine wpList_append_new rfl _ _ 26 rfl U2.heap.size 32 i32 (.agg #[.int .i64 0, .int .i64 0, .int .i64 0, .int .i64 0, .int .u8 0, .int .i64 0, .bool false, .bool false]) 8 56 Try.underlying26 hi32 hz0 hz1 hz2 rfl (by decide) _ rfl O5.out w.heap.size b.ka b.kl b.kc (kvals kl) rfl HK5.out (kvals_one kl) (by unfold maxLen; omega) (by omega) (by have := S5.out.2.2; omega) ?_; intro a3 c3 V3 ho3 r3 e3
       have x8 := X7.out.below e3 (by have := S5.out; omega)
       have y8 := Y7.out.below e3 (by have := S5.out; omega)
       have hs3 := e3.size
       have hn5 := S5.out
       have om8 := owns_below OM5.out.1 (OM5.out.2.2.trans e3) (Nat.le_refl _)
       have ot8 := owns_below OM5.out.2.1 (OM5.out.2.2.trans e3) (Nat.le_refl _)
       have g19 := x8.frozen 19
       have d19 := x8.f19
       have u3 := x8.setKept a3 b.kl c3
       obtain ⟨U3, hU3, bu3, su3, oth3⟩ := set_facts (V := V3) (B := w.heap.size) 19 (.slice a3 b.kl c3)
       rw [hU3] at u3
       have z3 : BAt U3 (w.heap.size + 1) b0 := (oth3 _ (by omega)).trans y8
       have oM := owns_other om8 (by omega) (bu3 _ (Nat.le_refl _)) oth3
       have oT := owns_other ot8 (by omega) (bu3 _ (Nat.le_refl _)) oth3
       have oK := owns_other ho3 (by omega) (bu3 _ (Nat.le_refl _)) oth3
       have bw8 := (BW5.out.trans (e3.mono (by omega : w.heap.size ≤ _))).trans (bu3 _ (Nat.le_refl _))
       obtain ⟨l1, l2⟩ : Loads U3 (.pointer (some ⟨w.heap.size, 0, none⟩)) ∧ rowOf U3 (.pointer (some ⟨w.heap.size, 0, none⟩)) = #[.int .i64 b.epoch, .int .i64 b.seq, .bool b.set, .int .i64 b.desired, .int .i64 b.minh, .int .i64 b.surplus, .int .i64 b.pool, .int .i64 b.hookIn, .int .i64 b.hookOut, .int .i64 b.warmup, .int .i64 b.drain, .int .i64 b.reap, .int .i64 b.timeout, .int .i64 b.fails, .int .i64 b.delay, .int .i64 b.version, .bool b.skip, .slice a1 b.ml c1, .slice a2 b.il c2, .slice a3 b.kl c3, .int .u8 b.state, .int .i64 b.ffrom, .int .i64 b.target, .int .i64 b.step, .bool b.paused, .int .i64 b.since, .int .i64 b.rfails] := u3.facts
       obtain ⟨W9, s1, s2, x9, bx9, n9, ox9⟩ := z3.stores (b.own a1 c1 a2 c2 a3 c3)
       have bw9 := bw8.trans (bx9 _ (by omega))
       unfold Br.own at s1 s2
       dsimp only at s1 s2
       clear x8 y8 hs3 hn5 u3 bu3 su3 oth3 z3 ho3 om8 ot8 r3 e3 f19))
  clear l1 l2 s1 s2 hU1 hU2 hU3 hW1 hW2 hW3 hW4 hW5
  refine bodyPost_ret (results_cell30 rfl _ rfl x9) rfl ?_
  have q := S5.out
  have e9 : ∀ {base e k n : Nat} {v : Value} {xs : List Value}, U3.ownsRow base e k v n xs → w.heap.size + 1 < base → W9.ownsRow base e k v n xs := fun h hb => owns_other h hb (bx9 _ (Nat.le_refl _)) ox9
  have oM9 := e9 oM (by omega)
  have oT9 := e9 oT (by omega)
  have oK9 := e9 oK (by omega)
  exact ⟨a1, c1, a2, c2, a3, c3, rfl, owns_mono oM9 (by omega), owns_mono oT9 (by omega), owns_mono oK9 (by omega), bw9⟩
end Go.Proofs.Ytpneohekghpkbaa
