/- The contract of wakes. -/
import Derived.Deep.MidRow
import Derived.Test.YtpneohekghpkbaaF
namespace Go.Proofs.Ytpneohekghpkbaa
open Go.RowKit Go.Shelf
attribute [local go_sem ↓] load_rule

/-- The value is a whole brain, and the other leads to a block for one. -/
def Stores (w : World) (v u : Value) : Prop := ∃ B old cs, v = .pointer (some ⟨B, 0, none⟩) ∧ u = .agg cs ∧ w.heap[B]? = some (.cells old 30 (0, 0)) ∧ old.size = 27 ∧ cs.size = 27 ∧ cs.all (·.oneCell') = true
def storedRow (w : World) : Value → Value → World
  | .pointer (some a), .agg cs => w.setRow a.block cs
  | _, _ => w

theorem store_rule (d : Option Tmp) (k j t : Nat) (p : String) (af : Array Edge) (g : Option (Nat × Bool)) (ρ : Operand → Value) (w : World) (h : Stores w (ρ (.tmp k)) (ρ (.tmp j))) :
    Sem.run Try.prog (execOp ρ { dst := d, op := .store 30 (.tmp k) (.tmp j), type := t, pos := p, after := af, guard := g }) w = .ok .skip (storedRow w (ρ (.tmp k)) (ρ (.tmp j))) := by
  obtain ⟨B, old, cs, hv, hu, hh, ho, hs, h1⟩ := h
  have hl := run_storeVar_row w B 30 30 old cs hh (P := Try.prog) (by rw [hs]; exact size30) (by rw [ho, hs]) h1
  unfold execOp
  simp only [hv, hu, Instr.storeAt, Instr.sureAddr, Sem.run_bind, Sem.run_pure, Result.andThen_ok, hl, storedRow]
attribute [local go_sem ↓] store_rule

theorem stored_new (w : World) (old cs : Array Value) : storedRow (w.alloc (.cells old 30)) (.pointer (some ⟨w.heap.size, 0, none⟩)) (.agg cs) = w.alloc (.cells cs 30) := by
  show ({ w with heap := (w.heap.push (.cells old 30)).modify w.heap.size _ } : World) = { w with heap := w.heap.push (.cells cs 30) }
  congr 1
  apply Array.ext_getElem?
  intro i
  rw [Array.getElem?_modify]
  by_cases h : w.heap.size = i
  · subst h; simp
  · rw [if_neg h]
    simp [Array.getElem?_push, Ne.symm h]

/-- The zeros of a new block for a brain. -/
def zB : Array Value := #[.int .i64 0, .int .i64 0, .bool false, .int .i64 0, .int .i64 0, .int .i64 0, .int .i64 0, .int .i64 0, .int .i64 0, .int .i64 0, .int .i64 0, .int .i64 0, .int .i64 0, .int .i64 0, .int .i64 0, .int .i64 0, .bool false, .slice none 0 0, .slice none 0 0, .slice none 0 0, .int .u8 0, .int .i64 0, .int .i64 0, .int .i64 0, .bool false, .int .i64 0, .int .i64 0]

theorem stores_new (w : World) (cs : Array Value) (hs : cs.size = 27) (h1 : cs.all (·.oneCell') = true) : Stores (w.alloc (.cells zB 30)) (.pointer (some ⟨w.heap.size, 0, none⟩)) (.agg cs) := by
  refine ⟨_, zB, _, rfl, rfl, ?_, rfl, hs, h1⟩
  unfold World.alloc
  simp

/-- A record with a few fields of its own. -/
def b0 : Br := { epoch := 0, seq := 0, set := false, desired := 0, minh := 0, surplus := 0, pool := 0, hookIn := 0, hookOut := 0, warmup := 0, drain := 0, reap := 0, timeout := 0, fails := 0, delay := 0, version := 0, skip := false, ma := none, ml := 0, mc := 0, ia := none, il := 0, ic := 0, ka := none, kl := 0, kc := 0, state := 0, ffrom := 0, target := 0, step := 0, paused := false, since := 0, rfails := 0 }

theorem new_store (W : World) (b : Br) (hB : Nat) (hB' : hB = W.heap.size) : ∃ W2, Stores (W.alloc (.cells zB 30)) (.pointer (some ⟨hB, 0, none⟩)) (.agg #[.int .i64 b.epoch, .int .i64 b.seq, .bool b.set, .int .i64 b.desired, .int .i64 b.minh, .int .i64 b.surplus, .int .i64 b.pool, .int .i64 b.hookIn, .int .i64 b.hookOut, .int .i64 b.warmup, .int .i64 b.drain, .int .i64 b.reap, .int .i64 b.timeout, .int .i64 b.fails, .int .i64 b.delay, .int .i64 b.version, .bool b.skip, .slice b.ma b.ml b.mc, .slice b.ia b.il b.ic, .slice b.ka b.kl b.kc, .int .u8 b.state, .int .i64 b.ffrom, .int .i64 b.target, .int .i64 b.step, .bool b.paused, .int .i64 b.since, .int .i64 b.rfails]) ∧ storedRow (W.alloc (.cells zB 30)) (.pointer (some ⟨hB, 0, none⟩)) (.agg #[.int .i64 b.epoch, .int .i64 b.seq, .bool b.set, .int .i64 b.desired, .int .i64 b.minh, .int .i64 b.surplus, .int .i64 b.pool, .int .i64 b.hookIn, .int .i64 b.hookOut, .int .i64 b.warmup, .int .i64 b.drain, .int .i64 b.reap, .int .i64 b.timeout, .int .i64 b.fails, .int .i64 b.delay, .int .i64 b.version, .bool b.skip, .slice b.ma b.ml b.mc, .slice b.ia b.il b.ic, .slice b.ka b.kl b.kc, .int .u8 b.state, .int .i64 b.ffrom, .int .i64 b.target, .int .i64 b.step, .bool b.paused, .int .i64 b.since, .int .i64 b.rfails]) = W2 ∧ BAt W2 hB b ∧ Below W.heap.size W W2 ∧ W2.heap.size = W.heap.size + 1 := by
  subst hB'
  refine ⟨_, stores_new W _ rfl (by simp [Value.oneCell']), stored_new W _ _, BAt.new W b, (Below.refl _ _).alloc (Nat.le_refl _) _, by simp⟩

theorem BAt.frozen {W : World} {B : Nat} {b : Br} (h : BAt W B b) (i : Nat) : W.frozen? ⟨B, i, none⟩ = false := by
  unfold BAt at h
  simp [World.frozen?, h]
theorem row_set {W : World} {B : Nat} {cs : Array Value} (h : W.heap[B]? = some (.cells cs 30 (0, 0))) (i : Nat) (v : Value) : (W.setCell ⟨B, i, none⟩ v).heap[B]? = some (.cells (cs.setIfInBounds i v) 30 (0, 0)) := by
  simp [World.setCell, Array.getElem?_modify, h]
theorem BAt.setKept {W : World} {B : Nat} {b : Br} (h : BAt W B b) (a : Option Addr) (l c : Nat) : BAt (W.setCell ⟨B, 19, none⟩ (.slice a l c)) B { b with ka := a, kl := l, kc := c } := row_set h 19 _
theorem BAt.setState {W : World} {B : Nat} {b : Br} (h : BAt W B b) (s : Int) : BAt (W.setCell ⟨B, 20, none⟩ (.int .u8 s)) B { b with state := s } := row_set h 20 _
theorem BAt.setFrom {W : World} {B : Nat} {b : Br} (h : BAt W B b) (s : Int) : BAt (W.setCell ⟨B, 21, none⟩ (.int .i64 s)) B { b with ffrom := s } := row_set h 21 _
theorem BAt.setTarget {W : World} {B : Nat} {b : Br} (h : BAt W B b) (s : Int) : BAt (W.setCell ⟨B, 22, none⟩ (.int .i64 s)) B { b with target := s } := row_set h 22 _
theorem BAt.setStep {W : World} {B : Nat} {b : Br} (h : BAt W B b) (s : Int) : BAt (W.setCell ⟨B, 23, none⟩ (.int .i64 s)) B { b with step := s } := row_set h 23 _
theorem BAt.setPaused {W : World} {B : Nat} {b : Br} (h : BAt W B b) (s : Bool) : BAt (W.setCell ⟨B, 24, none⟩ (.bool s)) B { b with paused := s } := row_set h 24 _
theorem BAt.setSince {W : World} {B : Nat} {b : Br} (h : BAt W B b) (s : Int) : BAt (W.setCell ⟨B, 25, none⟩ (.int .i64 s)) B { b with since := s } := row_set h 25 _
theorem BAt.setRfails {W : World} {B : Nat} {b : Br} (h : BAt W B b) (s : Int) : BAt (W.setCell ⟨B, 26, none⟩ (.int .i64 s)) B { b with rfails := s } := row_set h 26 _

theorem size28 : (Try.prog.info? 28).map (·.size) = some 7 := by kernel_rfl
/-- The value is a whole roll, and the other leads to seven cells for one. -/
def Rolls (w : World) (v u : Value) : Prop := ∃ B o cs, v = .pointer (some ⟨B, o, none⟩) ∧ u = .agg cs ∧ w.there B o 7 ∧ cs.size = 7 ∧ cs.all (·.oneCell') = true
def rolled (w : World) : Value → Value → World
  | .pointer (some a), .agg cs => w.setCells a.block a.off cs.toList
  | _, _ => w

theorem roll_rule (d : Option Tmp) (k j t : Nat) (p : String) (af : Array Edge) (g : Option (Nat × Bool)) (ρ : Operand → Value) (w : World) (h : Rolls w (ρ (.tmp k)) (ρ (.tmp j))) :
    Sem.run Try.prog (execOp ρ { dst := d, op := .store 28 (.tmp k) (.tmp j), type := t, pos := p, after := af, guard := g }) w = .ok .skip (rolled w (ρ (.tmp k)) (ρ (.tmp j))) := by
  obtain ⟨B, o, cs, hv, hu, ht, hs, h1⟩ := h
  have hl := run_storeVar_mid (P := Try.prog) w B o 28 cs (by rw [hs]; exact ht) (by rw [hs]; exact size28) h1
  unfold execOp
  simp only [hv, hu, Instr.storeAt, Instr.sureAddr, Sem.run_bind, Sem.run_pure, Result.andThen_ok, hl, rolled]

theorem below_cells {N b : Nat} (hb : N ≤ b) : ∀ (vs : List Value) (o : Nat) (w : World), Below N w (w.setCells b o vs)
  | [], _, _ => Below.refl _ _
  | v :: r, o, w => ((Below.refl N w).setCell (p := ⟨b, o, none⟩) hb v).trans (below_cells hb r (o + 1) _)
theorem cells_size (b : Nat) : ∀ (vs : List Value) (o : Nat) (w : World), (w.setCells b o vs).heap.size = w.heap.size
  | [], _, _ => rfl
  | v :: r, o, _ => (cells_size b r (o + 1) _).trans (by simp [World.setCell])

theorem cells_other {b k : Nat} (hk : k ≠ b) : ∀ (vs : List Value) (o : Nat) (w : World), (w.setCells b o vs).heap[k]? = w.heap[k]?
  | [], _, _ => rfl
  | v :: r, o, w => (cells_other hk r (o + 1) _).trans (by simp [World.setCell, Array.getElem?_modify, Ne.symm hk])
theorem cell_same {w w' : World} {b : Nat} (h : w'.heap[b]? = w.heap[b]?) (o : Nat) : w'.cell? ⟨b, o, none⟩ = w.cell? ⟨b, o, none⟩ := by
  simp only [World.cell?, h]
theorem KRow.same {w w' : World} {B n c : Nat} {a : Option Addr} {l : List Kp} (h : KRow w B (.slice a n c) l) (hs : ∀ b off, a = some ⟨b, off, none⟩ → w'.heap[b]? = w.heap[b]?) : KRow w' B (.slice a n c) l := by
  rcases h with h | ⟨b, off, cap, hv, hlt, hc⟩
  · exact .inl h
  · have hb : a = some ⟨b, off, none⟩ := by injection hv
    have hq := fun o => cell_same (hs b off hb) o
    exact .inr ⟨b, off, cap, hv, hlt, fun i hi => ⟨(hq _).trans (hc i hi).f0, (hq _).trans (hc i hi).f1, (hq _).trans (hc i hi).f2, (hq _).trans (hc i hi).f3, (hq _).trans (hc i hi).f4, (hq _).trans (hc i hi).f5, (hq _).trans (hc i hi).f6, (hq _).trans (hc i hi).f7⟩⟩

/-- A roll is laid into a brain. -/
theorem BAt.rolls {W : World} {B : Nat} {b : Br} (h : BAt W B b) (s f t st : Int) (p : Bool) (si fa : Int) :
    ∃ W2, Rolls W (.pointer (some ⟨B, 20, none⟩)) (.agg #[.int .u8 s, .int .i64 f, .int .i64 t, .int .i64 st, .bool p, .int .i64 si, .int .i64 fa]) ∧
      rolled W (.pointer (some ⟨B, 20, none⟩)) (.agg #[.int .u8 s, .int .i64 f, .int .i64 t, .int .i64 st, .bool p, .int .i64 si, .int .i64 fa]) = W2 ∧
      BAt W2 B { b with state := s, ffrom := f, target := t, step := st, paused := p, since := si, rfails := fa } ∧ Below B W W2 ∧ W2.heap.size = W.heap.size ∧ ∀ k, k ≠ B → W2.heap[k]? = W.heap[k]? := by
  refine ⟨_, ⟨B, 20, _, rfl, rfl, ?_, rfl, by simp [Value.oneCell']⟩, rfl, ?_, ?_, ?_, ?_⟩
  · intro j hj
    refine ⟨?_, h.frozen _⟩
    rcases j with _ | _ | _ | _ | _ | _ | _ | j
    · rw [h.f20]; rfl
    · rw [h.f21]; rfl
    · rw [h.f22]; rfl
    · rw [h.f23]; rfl
    · rw [h.f24]; rfl
    · rw [h.f25]; rfl
    · rw [h.f26]; rfl
    · omega
  · exact ((((((h.setState s).setFrom f).setTarget t).setStep st).setPaused p).setSince si).setRfails fa
  · exact below_cells (Nat.le_refl _) _ _ _
  · exact cells_size _ _ _ _
  · exact fun k hk => cells_other hk _ _ _

theorem reached_c (b : Br) (ms : List Int) (kl : List Kp) (hsmall : kl.length ≤ 100) (r : Bool) (hr : reachedB b ms kl = r) (w : World) (hm : IRow w w.heap.size b.ma b.ml ms) (hk : KRow w w.heap.size (.slice b.ka b.kl b.kc) kl) :
    Calls Try.prog 13 #[.agg #[.int .i64 b.epoch, .int .i64 b.seq, .bool b.set, .int .i64 b.desired, .int .i64 b.minh, .int .i64 b.surplus, .int .i64 b.pool, .int .i64 b.hookIn, .int .i64 b.hookOut, .int .i64 b.warmup, .int .i64 b.drain, .int .i64 b.reap, .int .i64 b.timeout, .int .i64 b.fails, .int .i64 b.delay, .int .i64 b.version, .bool b.skip, .slice b.ma b.ml b.mc, .slice b.ia b.il b.ic, .slice b.ka b.kl b.kc, .int .u8 b.state, .int .i64 b.ffrom, .int .i64 b.target, .int .i64 b.step, .bool b.paused, .int .i64 b.since, .int .i64 b.rfails]] w fun e w' => e = .returned (.bool r) ∧ Below w.heap.size w w' := by
  subst hr; exact reached_any b ms kl hsmall w hm hk

theorem irow_new (w : World) : IRow (w.alloc (.cells #[.int .i64 25, .int .i64 50] 3)) (w.heap.size + 1) (some ⟨w.heap.size, 0, none⟩) 2 [25, 50] := by
  have h : (w.alloc (.cells #[.int .i64 25, .int .i64 50] 3)).heap[w.heap.size]? = some (.cells #[.int .i64 25, .int .i64 50] 3 (0, 0)) := by unfold World.alloc; simp
  refine ⟨rfl, .inr ⟨_, _, rfl, by omega, ?_⟩⟩
  intro i hi
  rcases i with _ | _ | i
  · exact cell_of_row _ _ _ _ _ _ h
  · exact cell_of_row _ _ _ _ _ _ h
  · exact absurd hi (by simp)

def wkl : List Kp := [⟨1, 0, 3, 0, 4, 0, false, false⟩, ⟨2, 0, 2, 0, 4, 0, false, false⟩, ⟨3, 0, 3, 0, 2, 0, false, false⟩]
def wcs : Array Value := #[.int .i64 1, .int .i64 0, .int .i64 3, .int .i64 0, .int .u8 4, .int .i64 0, .bool false, .bool false, .int .i64 2, .int .i64 0, .int .i64 2, .int .i64 0, .int .u8 4, .int .i64 0, .bool false, .bool false, .int .i64 3, .int .i64 0, .int .i64 3, .int .i64 0, .int .u8 2, .int .i64 0, .bool false, .bool false]
theorem krow_new (W : World) (B : Nat) (hB : B = W.heap.size) : KRow (W.alloc (.cells wcs 32)) (B + 1) (.slice (some ⟨B, 0, none⟩) 3 3) wkl := by
  subst hB
  refine .inr ⟨_, 0, 3, rfl, by omega, ?_⟩
  have h : (W.alloc (.cells wcs 32)).heap[W.heap.size]? = some (.cells wcs 32 (0, 0)) := by unfold World.alloc; simp
  intro i hi
  rcases i with _ | _ | _ | i
  · constructor <;> exact cell_of_row _ _ _ _ _ _ h
  · constructor <;> exact cell_of_row _ _ _ _ _ _ h
  · constructor <;> exact cell_of_row _ _ _ _ _ _ h
  · exact absurd hi (by simp [wkl])

/-- The brains of wakes. -/
def bA (B : Nat) : Br := { b0 with set := true, desired := 4, delay := 3, version := 2, ma := some ⟨B, 0, none⟩, ml := 2, mc := 2, ka := some ⟨B + 1 + 1, 0, none⟩, kl := 3, kc := 3 }
def bC (B : Nat) : Br := { bA B with state := 1, ffrom := 2, target := 3 }
def bO (B : Nat) : Br := { bC B with paused := true, since := 10, step := 2 }

end Go.Proofs.Ytpneohekghpkbaa
