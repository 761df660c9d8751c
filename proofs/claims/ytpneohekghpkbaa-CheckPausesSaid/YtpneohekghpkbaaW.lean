/- The walk of CheckPauses. -/
import Derived.Test.YtpneohekghpkbaaV
import Derived.Test.YtpneohekghpkbaaT
namespace Go.Proofs.Ytpneohekghpkbaa
open Go.RowKit Go.Shelf
attribute [local go_sem ↓] load_rule
attribute [local go_sem ↓] store_rule
attribute [local go_sem] loads_drew rowOf_drew loads_drewN rowOf_drewN

theorem FB.far {b : Br} {ms : List Int} {is : List It} {kl : List Kp} {w W W' : World} (h : FB b ms is kl w W) (hb : Below (w.heap.size + 1) W W') : FB b ms is kl w W' := by
  have hs := h.s
  exact ⟨h.x.below hb (by omega), h.m.below hb (by omega), h.i.below hb (by omega), h.k.below hb (by omega), by have := hb.size; omega, h.b.trans (hb.mono (by omega))⟩

/-- A brain that lies in block O, with slices anywhere. -/
structure FD (c : Br) (ms : List Int) (is : List It) (kl : List Kp) (O : Nat) (W : World) : Prop where
  x : BAt W O c
  m : IRow W W.heap.size c.ma c.ml ms
  i : TRow W W.heap.size c.ia c.il is
  k : KRow W W.heap.size (.slice c.ka c.kl c.kc) kl
theorem FD.next {c : Br} {ms : List Int} {is : List It} {kl : List Kp} {O : Nat} {W W' : World} (h : FD c ms is kl O W) (hb : Below W.heap.size W W') : FD c ms is kl O W' :=
  ⟨h.x.below hb h.x.lt, (h.m.below hb (Nat.le_refl _)).mono hb.size, (h.i.below hb (Nat.le_refl _)).mono hb.size, (h.k.below hb (Nat.le_refl _)).mono hb.size⟩

/-- Both brains, as they stand in the loop. -/
def G3 (b c : Br) (ms : List Int) (is : List It) (kl : List Kp) (w : World) (O : Nat) (W : World) : Prop := FB b ms is kl w W ∧ FD c ms is kl O W
section
variable {b c : Br} {ms : List Int} {is : List It} {kl : List Kp} {w : World} {O : Nat} {W : World}
theorem G3.next {W' : World} (h : Hid (G3 b c ms is kl w O W)) (hb : Below W.heap.size W W') : Hid (G3 b c ms is kl w O W') := Lib.hid ⟨h.out.1.next hb, h.out.2.next hb⟩
theorem g3_mark (m : Int) (ok : Bool) (h1 : (markB c ms).1 = m) (h2 : (markB c ms).2 = ok) (h : Hid (G3 b c ms is kl w O W)) : Calls Try.prog 16 #[.agg #[.int .i64 c.epoch, .int .i64 c.seq, .bool c.set, .int .i64 c.desired, .int .i64 c.minh, .int .i64 c.surplus, .int .i64 c.pool, .int .i64 c.hookIn, .int .i64 c.hookOut, .int .i64 c.warmup, .int .i64 c.drain, .int .i64 c.reap, .int .i64 c.timeout, .int .i64 c.fails, .int .i64 c.delay, .int .i64 c.version, .bool c.skip, .slice c.ma c.ml c.mc, .slice c.ia c.il c.ic, .slice c.ka c.kl c.kc, .int .u8 c.state, .int .i64 c.ffrom, .int .i64 c.target, .int .i64 c.step, .bool c.paused, .int .i64 c.since, .int .i64 c.rfails]] W fun e W' => e = .returned (.tuple #[.int .i64 m, .bool ok]) ∧ Hid (G3 b c ms is kl w O W') :=
  (mark_c c ms m ok h1 h2 W h.out.2.m).mono fun _ _ ⟨he, hb⟩ => ⟨he, G3.next h hb⟩
theorem g3_passed (r : Bool) (hr : passedB c ms = r) (h : Hid (G3 b c ms is kl w O W)) : Calls Try.prog 15 #[.agg #[.int .i64 c.epoch, .int .i64 c.seq, .bool c.set, .int .i64 c.desired, .int .i64 c.minh, .int .i64 c.surplus, .int .i64 c.pool, .int .i64 c.hookIn, .int .i64 c.hookOut, .int .i64 c.warmup, .int .i64 c.drain, .int .i64 c.reap, .int .i64 c.timeout, .int .i64 c.fails, .int .i64 c.delay, .int .i64 c.version, .bool c.skip, .slice c.ma c.ml c.mc, .slice c.ia c.il c.ic, .slice c.ka c.kl c.kc, .int .u8 c.state, .int .i64 c.ffrom, .int .i64 c.target, .int .i64 c.step, .bool c.paused, .int .i64 c.since, .int .i64 c.rfails]] W fun e W' => e = .returned (.bool r) ∧ Hid (G3 b c ms is kl w O W') :=
  (passed_c c ms r hr W h.out.2.m).mono fun _ _ ⟨he, hb⟩ => ⟨he, G3.next h hb⟩
theorem g3_reached (hsm : kl.length ≤ 40) (r : Bool) (hr : reachedB c ms kl = r) (h : Hid (G3 b c ms is kl w O W)) : Calls Try.prog 13 #[.agg #[.int .i64 c.epoch, .int .i64 c.seq, .bool c.set, .int .i64 c.desired, .int .i64 c.minh, .int .i64 c.surplus, .int .i64 c.pool, .int .i64 c.hookIn, .int .i64 c.hookOut, .int .i64 c.warmup, .int .i64 c.drain, .int .i64 c.reap, .int .i64 c.timeout, .int .i64 c.fails, .int .i64 c.delay, .int .i64 c.version, .bool c.skip, .slice c.ma c.ml c.mc, .slice c.ia c.il c.ic, .slice c.ka c.kl c.kc, .int .u8 c.state, .int .i64 c.ffrom, .int .i64 c.target, .int .i64 c.step, .bool c.paused, .int .i64 c.since, .int .i64 c.rfails]] W fun e W' => e = .returned (.bool r) ∧ Hid (G3 b c ms is kl w O W') :=
  (reached_c c ms kl (by omega) r hr W h.out.2.m h.out.2.k).mono fun _ _ ⟨he, hb⟩ => ⟨he, G3.next h hb⟩
theorem g3_prog (hsm : kl.length ≤ 40) (p : Int) (hp : progB c kl = p) (h : Hid (G3 b c ms is kl w O W)) : Calls Try.prog 9 #[.agg #[.int .i64 c.epoch, .int .i64 c.seq, .bool c.set, .int .i64 c.desired, .int .i64 c.minh, .int .i64 c.surplus, .int .i64 c.pool, .int .i64 c.hookIn, .int .i64 c.hookOut, .int .i64 c.warmup, .int .i64 c.drain, .int .i64 c.reap, .int .i64 c.timeout, .int .i64 c.fails, .int .i64 c.delay, .int .i64 c.version, .bool c.skip, .slice c.ma c.ml c.mc, .slice c.ia c.il c.ic, .slice c.ka c.kl c.kc, .int .u8 c.state, .int .i64 c.ffrom, .int .i64 c.target, .int .i64 c.step, .bool c.paused, .int .i64 c.since, .int .i64 c.rfails]] W fun e W' => e = .returned (.int .i64 p) ∧ Hid (G3 b c ms is kl w O W') :=
  (progress_c c kl (by omega) p hp W h.out.2.k).mono fun _ _ ⟨he, hb⟩ => ⟨he, G3.next h hb⟩
end

/-- What the loop carries. -/
def LP (b c : Br) (ms : List Int) (is : List It) (kl : List Kp) (w : World) (O : Nat) (W : World) : Prop :=
  Hid (G3 b c ms is kl w O W) ∧ c.state = 1 ∧ c.ml = b.ml ∧ c.il = b.il ∧ c.kl = b.kl

/-- All, called at a round's end, and what it hands back stored. -/
theorem all_round {b c : Br} {ms : List Int} {is : List It} {kl : List Kp} {w : World} {O : Nat} {V Wa Wb : World} (now : Int) (hG : Hid (G3 b c ms is kl w O V)) (hO : w.heap.size + 1 ≤ O) (t1 : c.state = 1) (t2 : c.ml = b.ml) (t3 : c.il = b.il) (t4 : c.kl = b.kl)
    (gm : b.ml ≤ 40) (gi : b.il ≤ 40) (gk : b.kl ≤ 40) (hnow : 0 ≤ now ∧ now ≤ 1073741824) (hWa : V.alloc (.cells #[.int .i64 now] 3) = Wa) (hWb : Wa.alloc (.cells #[.int .u8 14, .slice (some ⟨V.heap.size, 0, none⟩) 1 1, .int .u8 15, .slice none 0 0] 44) = Wb) :
    Calls Try.prog 17 #[.agg #[.int .i64 c.epoch, .int .i64 c.seq, .bool c.set, .int .i64 c.desired, .int .i64 c.minh, .int .i64 c.surplus, .int .i64 c.pool, .int .i64 c.hookIn, .int .i64 c.hookOut, .int .i64 c.warmup, .int .i64 c.drain, .int .i64 c.reap, .int .i64 c.timeout, .int .i64 c.fails, .int .i64 c.delay, .int .i64 c.version, .bool c.skip, .slice c.ma c.ml c.mc, .slice c.ia c.il c.ic, .slice c.ka c.kl c.kc, .int .u8 c.state, .int .i64 c.ffrom, .int .i64 c.target, .int .i64 c.step, .bool c.paused, .int .i64 c.since, .int .i64 c.rfails], .slice (some ⟨V.heap.size + 1, 0, none⟩) 2 2] Wb fun e W' => ∃ (c' : Br) (W2 : World), e = .returned (.agg #[.int .i64 c'.epoch, .int .i64 c'.seq, .bool c'.set, .int .i64 c'.desired, .int .i64 c'.minh, .int .i64 c'.surplus, .int .i64 c'.pool, .int .i64 c'.hookIn, .int .i64 c'.hookOut, .int .i64 c'.warmup, .int .i64 c'.drain, .int .i64 c'.reap, .int .i64 c'.timeout, .int .i64 c'.fails, .int .i64 c'.delay, .int .i64 c'.version, .bool c'.skip, .slice c'.ma c'.ml c'.mc, .slice c'.ia c'.il c'.ic, .slice c'.ka c'.kl c'.kc, .int .u8 c'.state, .int .i64 c'.ffrom, .int .i64 c'.target, .int .i64 c'.step, .bool c'.paused, .int .i64 c'.since, .int .i64 c'.rfails]) ∧ Stores W' (.pointer (some ⟨O, 0, none⟩)) (.agg #[.int .i64 c'.epoch, .int .i64 c'.seq, .bool c'.set, .int .i64 c'.desired, .int .i64 c'.minh, .int .i64 c'.surplus, .int .i64 c'.pool, .int .i64 c'.hookIn, .int .i64 c'.hookOut, .int .i64 c'.warmup, .int .i64 c'.drain, .int .i64 c'.reap, .int .i64 c'.timeout, .int .i64 c'.fails, .int .i64 c'.delay, .int .i64 c'.version, .bool c'.skip, .slice c'.ma c'.ml c'.mc, .slice c'.ia c'.il c'.ic, .slice c'.ka c'.kl c'.kc, .int .u8 c'.state, .int .i64 c'.ffrom, .int .i64 c'.target, .int .i64 c'.step, .bool c'.paused, .int .i64 c'.since, .int .i64 c'.rfails]) ∧ storedRow W' (.pointer (some ⟨O, 0, none⟩)) (.agg #[.int .i64 c'.epoch, .int .i64 c'.seq, .bool c'.set, .int .i64 c'.desired, .int .i64 c'.minh, .int .i64 c'.surplus, .int .i64 c'.pool, .int .i64 c'.hookIn, .int .i64 c'.hookOut, .int .i64 c'.warmup, .int .i64 c'.drain, .int .i64 c'.reap, .int .i64 c'.timeout, .int .i64 c'.fails, .int .i64 c'.delay, .int .i64 c'.version, .bool c'.skip, .slice c'.ma c'.ml c'.mc, .slice c'.ia c'.il c'.ic, .slice c'.ka c'.kl c'.kc, .int .u8 c'.state, .int .i64 c'.ffrom, .int .i64 c'.target, .int .i64 c'.step, .bool c'.paused, .int .i64 c'.since, .int .i64 c'.rfails]) = W2 ∧ Hid (LP b c' ms is kl w O W2) := by
  have na : Wa.heap.size = V.heap.size + 1 := by rw [← hWa]; simp
  have nb : Wb.heap.size = V.heap.size + 1 + 1 := by rw [← hWb]; simp [na]
  have ba : Below V.heap.size V Wa := by rw [← hWa]; exact (Below.refl _ _).alloc (Nat.le_refl _) _
  have ba' : Below Wa.heap.size Wa Wb := by rw [← hWb]; exact (Below.refl _ _).alloc (Nat.le_refl _) _
  have bb : Below V.heap.size V Wb := ba.trans (ba'.mono (by omega))
  have hGb := G3.next hG bb
  have hr : Wb.heap[V.heap.size + 1]? = some (.cells #[.int .u8 14, .slice (some ⟨V.heap.size, 0, none⟩) 1 1, .int .u8 15, .slice none 0 0] 44 (0, 0)) := by
    rw [← na, ← hWb]; unfold World.alloc; simp
  have hn : Wb.cell? ⟨V.heap.size, 0, none⟩ = some (.int .i64 now) := by
    rw [ba'.cell (p := ⟨V.heap.size, 0, none⟩) (by show V.heap.size < _; omega), ← hWa]
    exact (cell_new_l V _ _).1
  refine (all_any c now ms is kl V.heap.size (V.heap.size + 1) Wb (by omega) (cell_of_row _ _ _ _ _ _ hr) (cell_of_row _ _ _ _ _ _ hr) (cell_of_row _ _ _ _ _ _ hr) (cell_of_row _ _ _ _ _ _ hr) ⟨V.heap.size, 1, rfl, by omega, hn, by omega, by omega⟩ (by omega) (by omega) (by omega) hGb.out.2.m.row hGb.out.2.i.row hGb.out.2.k.row).mono ?_
  rintro e W' ⟨c', rfl, ⟨u1, u2, u3, u4⟩, o1, o2, o3, hb⟩
  obtain ⟨W2, s1, s2, x2, b2, n2, oth⟩ := (hGb.out.2.x.below hb hGb.out.2.x.lt).stores c'
  have hOb := hGb.out.2.x.lt
  have key : ∀ {e k n : Nat} {v : Value} {xs : List Value}, W'.ownsRow Wb.heap.size e k v n xs → W2.ownsRow Wb.heap.size e k v n xs := fun ho => owns_other ho hOb (b2 _ (Nat.le_refl _)) oth
  have hFm := hG.out.2.m.1
  have hFi := hG.out.2.i.1
  have hFk := hG.out.2.k.open.1
  exact ⟨c', W2, rfl, s1, s2, Lib.hid ⟨Lib.hid ⟨(hGb.out.1.next hb).far (b2 _ hO), x2, (row_own (key o1)).irow (by omega), (row_own (key o2)).trow (by omega), (row_own (key o3)).krow c'.kc (by omega)⟩, by omega, by omega, by omega, by omega⟩⟩

set_option maxRecDepth 100000 in
set_option maxHeartbeats 4000000 in
theorem checkPauses_any (b : Br) (now : Int) (ms : List Int) (is : List It) (kl : List Kp) (w : World) (hm : IRow w w.heap.size b.ma b.ml ms) (hi : TRow w w.heap.size b.ia b.il is) (hk : KRow w w.heap.size (.slice b.ka b.kl b.kc) kl) :
    Calls Try.prog 4 #[.agg #[.int .i64 b.epoch, .int .i64 b.seq, .bool b.set, .int .i64 b.desired, .int .i64 b.minh, .int .i64 b.surplus, .int .i64 b.pool, .int .i64 b.hookIn, .int .i64 b.hookOut, .int .i64 b.warmup, .int .i64 b.drain, .int .i64 b.reap, .int .i64 b.timeout, .int .i64 b.fails, .int .i64 b.delay, .int .i64 b.version, .bool b.skip, .slice b.ma b.ml b.mc, .slice b.ia b.il b.ic, .slice b.ka b.kl b.kc, .int .u8 b.state, .int .i64 b.ffrom, .int .i64 b.target, .int .i64 b.step, .bool b.paused, .int .i64 b.since, .int .i64 b.rfails], .int .i64 now] w (TruePost w) := by
  obtain ⟨W1, hW1⟩ : ∃ W1, w.alloc (.cells #[.int .i64 b.epoch, .int .i64 b.seq, .bool b.set, .int .i64 b.desired, .int .i64 b.minh, .int .i64 b.surplus, .int .i64 b.pool, .int .i64 b.hookIn, .int .i64 b.hookOut, .int .i64 b.warmup, .int .i64 b.drain, .int .i64 b.reap, .int .i64 b.timeout, .int .i64 b.fails, .int .i64 b.delay, .int .i64 b.version, .bool b.skip, .slice b.ma b.ml b.mc, .slice b.ia b.il b.ic, .slice b.ka b.kl b.kc, .int .u8 b.state, .int .i64 b.ffrom, .int .i64 b.target, .int .i64 b.step, .bool b.paused, .int .i64 b.since, .int .i64 b.rfails] 30) = W1 := ⟨_, rfl⟩
  have x1 : BAt W1 w.heap.size b := by rw [← hW1]; exact BAt.new w b
  have n1 : W1.heap.size = w.heap.size + 1 := by rw [← hW1]; simp
  have bw1 : Below w.heap.size w W1 := by rw [← hW1]; exact (Below.refl _ _).alloc (Nat.le_refl _) _
  have F : FB b ms is kl w W1 := ⟨x1, hm.below bw1 (Nat.le_refl _), hi.below bw1 (Nat.le_refl _), hk.below bw1 (Nat.le_refl _), by omega, bw1⟩
  obtain ⟨l1, l2⟩ := F.x.facts
  have F1 := Lib.hid F
  clear x1 bw1 F hm hi hk n1
  go_enter Try.func4, Try.ntmps4
  cases hg : greatB b with
  | true =>
    have HG := Lib.hid hg
    clear hg
    go_wp2_with fail
    refine (great_c b true HG.out _).mono ?_
    rintro e W3 ⟨rfl, hb⟩
    clear l1 l2
    go_wp2_with fail
    refine (wakes_true _).mono ?_
    rintro e W4 ⟨rfl, hb4⟩
    go_wp2
    go_ret
    have hF := F1.out.next hb
    exact ⟨rfl, hF.b.trans (hb4.mono (by have := hF.s; omega))⟩
  | false =>
  obtain ⟨gi, gk, gm⟩ := great_no hg
  have HG := Lib.hid hg
  clear hg
  go_wp2_with fail
  refine (great_c b false HG.out _).mono ?_
  rintro e W3 ⟨rfl, hb⟩
  have F3 := Lib.hid (F1.out.next hb)
  clear l1 l2 hb F1 HG
  obtain ⟨l1, l2⟩ := F3.out.x.facts
  go_wp2_with fail
  refine (right_any b gi gk ms is kl W3 (F3.out.m.mono (by have := F3.out.s; omega)) (F3.out.i.mono (by have := F3.out.s; omega)) (F3.out.k.mono (by have := F3.out.s; omega))).mono ?_
  rintro e W4 ⟨r, rfl, -, hb⟩
  have F4 := Lib.hid (F3.out.next hb)
  clear l1 l2 hb F3
  cases r with
  | false =>
    go_wp2_with fail
    refine (wakes_true _).mono ?_
    rintro e W5 ⟨rfl, hb5⟩
    go_wp2
    go_ret
    exact ⟨rfl, F4.out.b.trans (hb5.mono (by have := F4.out.s; omega))⟩
  | true =>
  cases d1 : decide (now < 0) with
  | true =>
    go_wp2_with fail
    refine (wakes_true _).mono ?_
    rintro e W5 ⟨rfl, hb5⟩
    go_wp2
    go_ret
    exact ⟨rfl, F4.out.b.trans (hb5.mono (by have := F4.out.s; omega))⟩
  | false =>
  cases d2 : decide (1073741824 < now) with
  | true =>
    go_wp2_with fail
    refine (wakes_true _).mono ?_
    rintro e W5 ⟨rfl, hb5⟩
    go_wp2
    go_ret
    exact ⟨rfl, F4.out.b.trans (hb5.mono (by have := F4.out.s; omega))⟩
  | false =>
  have T1 : Hid (0 ≤ now ∧ now ≤ 1073741824) := Lib.hid (by simp only [decide_eq_false_iff_not] at d1 d2; omega)
  obtain ⟨l1, l2⟩ := F4.out.x.facts
  have hsm : kl.length ≤ 40 := by have := F4.out.k.open.1; omega
  have HSM := Lib.hid hsm
  clear hsm
  by_cases hst : ¬ b.state = 1
  · have st : (b.state == 1) = false := by simpa using hst
    have HR := Lib.hid (show reachedB b ms kl = false by simp [reachedB, activeB, st])
    have HO := Lib.hid (show overB b now = false by simp [overB, activeB, st])
    have HP := Lib.hid (show passedB b ms = false by simp [passedB, st])
    clear st
    go_wp2_with fail
    refine (reached_c b ms kl (by have := HSM.out; omega) false HR.out W4 (F4.out.m.mono (by have := F4.out.s; omega)) (F4.out.k.mono (by have := F4.out.s; omega))).mono ?_
    rintro e W5 ⟨rfl, hb⟩
    have F5 := Lib.hid (F4.out.next hb)
    clear l1 l2 hb F4 d1 d2
    obtain ⟨l1, l2⟩ := F5.out.x.facts
    have f20 := F5.out.x.f20
    go_wp2_with fail
    refine (reached_c b ms kl (by have := HSM.out; omega) false HR.out W5 (F5.out.m.mono (by have := F5.out.s; omega)) (F5.out.k.mono (by have := F5.out.s; omega))).mono ?_
    rintro e W6 ⟨rfl, hb⟩
    have F6 := Lib.hid (F5.out.next hb)
    clear l1 l2 hb F5 f20
    obtain ⟨l1, l2⟩ := F6.out.x.facts
    go_wp2_with fail
    refine (over_c b now false HO.out W6).mono ?_
    rintro e W7 ⟨rfl, hb⟩
    have F7 := Lib.hid (F6.out.next hb)
    clear l1 l2 hb F6
    obtain ⟨l1, l2⟩ := F7.out.x.facts
    go_wp2_with fail
    refine (passed_c b ms false HP.out W7 (F7.out.m.mono (by have := F7.out.s; omega))).mono ?_
    rintro e W8 ⟨rfl, hb⟩
    have F8 := Lib.hid (F7.out.next hb)
    clear l1 l2 hb F7
    go_wp2_with fail
    refine (wakes_true _).mono ?_
    rintro e W9 ⟨rfl, hb9⟩
    go_wp2
    go_ret
    exact ⟨rfl, F8.out.b.trans (hb9.mono (by have := F8.out.s; omega))⟩
  replace hst := Classical.not_not.1 hst
  have HST := Lib.hid hst
  clear hst
  obtain ⟨r, hr⟩ : ∃ r, reachedB b ms kl = r := ⟨_, rfl⟩
  have HR := Lib.hid hr
  clear hr
  go_wp2_with fail
  refine (reached_c b ms kl (by have := HSM.out; omega) r HR.out W4 (F4.out.m.mono (by have := F4.out.s; omega)) (F4.out.k.mono (by have := F4.out.s; omega))).mono ?_
  rintro e W5 ⟨rfl, hb⟩
  have F5 := Lib.hid (F4.out.next hb)
  clear l1 l2 hb F4 d1 d2
  cases r with
  | false =>
    have F6 := F5
    clear F5
    rename World => W6
    obtain ⟨l1, l2⟩ := F6.out.x.facts
    have f20 := F6.out.x.f20
    rw [HST.out] at f20
    go_wp2_with fail
    refine (own_any b ms is kl W6 gm gi gk (F6.out.m.mono (by have := F6.out.s; omega)).row (F6.out.i.mono (by have := F6.out.s; omega)).row (F6.out.k.mono (by have := F6.out.s; omega)).row).mono ?_
    rintro e W7 ⟨a1, c1, a2, c2, a3, c3, rfl, o1, o2, o3, b7⟩
    obtain ⟨W8, s1, s2, x8, b8, n8⟩ := new_store W7 (b.own a1 c1 a2 c2 a3 c3) W7.heap.size rfl
    unfold zB Br.own at s1 s2
    dsimp only at s1 s2
    have L0 : Hid (LP b (b.own a1 c1 a2 c2 a3 c3) ms is kl w W7.heap.size W8) := Lib.hid ⟨Lib.hid ⟨F6.out.next (b7.trans (b8.mono b7.size)), x8, (row_own (owns_below o1 b8 (Nat.le_refl _))).irow F6.out.m.1, (row_own (owns_below o2 b8 (Nat.le_refl _))).trow F6.out.i.1, (row_own (owns_below o3 b8 (Nat.le_refl _))).krow c3 F6.out.k.open.1⟩, HST.out, rfl, rfl, rfl⟩
    have HOB := Lib.hid (show w.heap.size + 1 ≤ W7.heap.size by have := F6.out.s; have := b7.size; omega)
    clear l1 l2 f20 o1 o2 o3 b7 x8 b8 n8 F6
    obtain ⟨O, hO⟩ : ∃ O, W7.heap.size = O := ⟨_, rfl⟩
    rw [hO] at L0 s1 s2 HOB
    go_wp2_with fail
    clear s1 s2 hO
    go_loopw [6] (fun s6 wr => ∃ (k : Nat) (c : Br), k ≤ b.ml + 2 ∧ s6 = .int .i64 k ∧ Hid (LP b c ms is kl w O wr)) (fun s6 _ => b.ml + 2 - (intOf s6).toNat)
    case atStart => exact ⟨0, _, by omega, rfl, L0⟩
    case round =>
      obtain ⟨k, c, hk, rfl, hL⟩ := hrel
      clear L0
      have hG0 := hL.out.1
      have HL := Lib.hid hL.out.2
      have f17 := hG0.out.1.x.f17
      clear hL
      by_cases hlt : k ≤ b.ml + 1
      · have hki : (k : Int) ≤ (b.ml : Int) + 1 := by omega
        obtain ⟨l1, l2⟩ := hG0.out.2.x.facts
        have hmn := hG0.out.2.m.1
        obtain ⟨m, hm1⟩ : ∃ m, (markB c ms).1 = m := ⟨_, rfl⟩
        by_cases g1 : c.step < 0
        · have hok : (markB c ms).2 = false := by simp [markB, g1]
          have hmk := And.intro hm1 hok
          have e1 : decide (0 ≤ c.step) = false := by simpa using g1
          clear g1 hm1 hmn
          have HM := Lib.hid hmk
          have HP := Lib.hid (show passedB c ms = true by simp [passedB, hok, HL.out.1])
          clear hmk hok
          go_wp2_with fail
          refine (g3_mark (b := b) (is := is) (kl := kl) (w := w) (O := O) m false HM.out.1 HM.out.2 hG0).mono ?_
          rintro e V1 ⟨rfl, hG1⟩
          clear l1 l2 f17
          obtain ⟨l1, l2⟩ := hG1.out.2.x.facts
          have d23 := hG1.out.2.x.f23
          have d17 := hG1.out.2.x.f17
          go_wp2_with fail
          refine (g3_passed true HP.out hG1).mono ?_
          rintro e V2 ⟨rfl, hG2⟩
          clear l1 l2 d23 d17
          have d24 := hG2.out.2.x.f24
          by_cases hp : c.paused = true
          · rw [hp] at d24
            clear hp
            obtain ⟨l1, l2⟩ := hG2.out.2.x.facts
            obtain ⟨Wa, hWa⟩ : ∃ Wa, V2.alloc (.cells #[.int .i64 now] 3) = Wa := ⟨_, rfl⟩
            obtain ⟨Wb, hWb⟩ : ∃ Wb, Wa.alloc (.cells #[.int .u8 14, .slice (some ⟨V2.heap.size, 0, none⟩) 1 1, .int .u8 15, .slice none 0 0] 44) = Wb := ⟨_, rfl⟩
            have na : Wa.heap.size = V2.heap.size + 1 := by rw [← hWa]; simp
            go_wp2_with fail
            refine (all_round now hG2 HOB.out HL.out.1 HL.out.2.1 HL.out.2.2.1 HL.out.2.2.2 gm gi gk T1.out hWa hWb).mono ?_
            rintro e W9 ⟨c', Wz, rfl, s1, s2, hL'⟩
            clear l1 l2 hWa hWb na
            go_wp2
            go_roundw
            case rel => exact ⟨k + 1, c', by omega, by go_num, hL'⟩
            case measure => simp [intOf]; omega
          · replace hp := Bool.eq_false_iff.2 hp
            rw [hp] at d24
            obtain ⟨q, hq⟩ : ∃ q, progB c kl = q := ⟨_, rfl⟩
            have HQ := Lib.hid hq
            have HRR := Lib.hid (show reachedB c ms kl = false by
              have h1 := HM.out.1
              have h2 := HM.out.2
              have ha : activeB c false = true := by simp [activeB, HL.out.1, hp]
              unfold reachedB
              rw [h1, h2, ha, hq]
              simp)
            clear hp hq
            obtain ⟨l1, l2⟩ := hG2.out.2.x.facts
            go_wp2_with fail
            refine (g3_reached HSM.out (false) HRR.out hG2).mono ?_
            rintro e V3 ⟨rfl, hG3⟩
            clear l1 l2 d24
            obtain ⟨l1, l2⟩ := hG3.out.2.x.facts
            obtain ⟨Wa, hWa⟩ : ∃ Wa, V3.alloc (.cells #[.int .i64 now] 3) = Wa := ⟨_, rfl⟩
            obtain ⟨Wb, hWb⟩ : ∃ Wb, Wa.alloc (.cells #[.int .u8 14, .slice (some ⟨V3.heap.size, 0, none⟩) 1 1, .int .u8 15, .slice none 0 0] 44) = Wb := ⟨_, rfl⟩
            have na : Wa.heap.size = V3.heap.size + 1 := by rw [← hWa]; simp
            go_wp2_with fail
            refine (all_round now hG3 HOB.out HL.out.1 HL.out.2.1 HL.out.2.2.1 HL.out.2.2.2 gm gi gk T1.out hWa hWb).mono ?_
            rintro e W9 ⟨c', Wz, rfl, s1, s2, hL'⟩
            clear l1 l2 hWa hWb na
            go_wp2
            go_roundw
            case rel => exact ⟨k + 1, c', by omega, by go_num, hL'⟩
            case measure => simp [intOf]; omega
        by_cases g2 : (c.ml : Int) ≤ c.step
        · have hok : (markB c ms).2 = false := by unfold markB; rw [if_pos (by omega)]
          have hmk := And.intro hm1 hok
          have e1 : decide (0 ≤ c.step) = true := by simpa using g1
          have e2 : decide (c.step < (c.ml : Int)) = false := by simpa using g2
          clear g1 g2 hm1 hmn
          have HM := Lib.hid hmk
          have HP := Lib.hid (show passedB c ms = true by simp [passedB, hok, HL.out.1])
          clear hmk hok
          go_wp2_with fail
          refine (g3_mark (b := b) (is := is) (kl := kl) (w := w) (O := O) m false HM.out.1 HM.out.2 hG0).mono ?_
          rintro e V1 ⟨rfl, hG1⟩
          clear l1 l2 f17
          obtain ⟨l1, l2⟩ := hG1.out.2.x.facts
          have d23 := hG1.out.2.x.f23
          have d17 := hG1.out.2.x.f17
          go_wp2_with fail
          refine (g3_passed true HP.out hG1).mono ?_
          rintro e V2 ⟨rfl, hG2⟩
          clear l1 l2 d23 d17
          have d24 := hG2.out.2.x.f24
          by_cases hp : c.paused = true
          · rw [hp] at d24
            clear hp
            obtain ⟨l1, l2⟩ := hG2.out.2.x.facts
            obtain ⟨Wa, hWa⟩ : ∃ Wa, V2.alloc (.cells #[.int .i64 now] 3) = Wa := ⟨_, rfl⟩
            obtain ⟨Wb, hWb⟩ : ∃ Wb, Wa.alloc (.cells #[.int .u8 14, .slice (some ⟨V2.heap.size, 0, none⟩) 1 1, .int .u8 15, .slice none 0 0] 44) = Wb := ⟨_, rfl⟩
            have na : Wa.heap.size = V2.heap.size + 1 := by rw [← hWa]; simp
            go_wp2_with fail
            refine (all_round now hG2 HOB.out HL.out.1 HL.out.2.1 HL.out.2.2.1 HL.out.2.2.2 gm gi gk T1.out hWa hWb).mono ?_
            rintro e W9 ⟨c', Wz, rfl, s1, s2, hL'⟩
            clear l1 l2 hWa hWb na
            go_wp2
            go_roundw
            case rel => exact ⟨k + 1, c', by omega, by go_num, hL'⟩
            case measure => simp [intOf]; omega
          · replace hp := Bool.eq_false_iff.2 hp
            rw [hp] at d24
            obtain ⟨q, hq⟩ : ∃ q, progB c kl = q := ⟨_, rfl⟩
            have HQ := Lib.hid hq
            have HRR := Lib.hid (show reachedB c ms kl = false by
              have h1 := HM.out.1
              have h2 := HM.out.2
              have ha : activeB c false = true := by simp [activeB, HL.out.1, hp]
              unfold reachedB
              rw [h1, h2, ha, hq]
              simp)
            clear hp hq
            obtain ⟨l1, l2⟩ := hG2.out.2.x.facts
            go_wp2_with fail
            refine (g3_reached HSM.out (false) HRR.out hG2).mono ?_
            rintro e V3 ⟨rfl, hG3⟩
            clear l1 l2 d24
            obtain ⟨l1, l2⟩ := hG3.out.2.x.facts
            obtain ⟨Wa, hWa⟩ : ∃ Wa, V3.alloc (.cells #[.int .i64 now] 3) = Wa := ⟨_, rfl⟩
            obtain ⟨Wb, hWb⟩ : ∃ Wb, Wa.alloc (.cells #[.int .u8 14, .slice (some ⟨V3.heap.size, 0, none⟩) 1 1, .int .u8 15, .slice none 0 0] 44) = Wb := ⟨_, rfl⟩
            have na : Wa.heap.size = V3.heap.size + 1 := by rw [← hWa]; simp
            go_wp2_with fail
            refine (all_round now hG3 HOB.out HL.out.1 HL.out.2.1 HL.out.2.2.1 HL.out.2.2.2 gm gi gk T1.out hWa hWb).mono ?_
            rintro e W9 ⟨c', Wz, rfl, s1, s2, hL'⟩
            clear l1 l2 hWa hWb na
            go_wp2
            go_roundw
            case rel => exact ⟨k + 1, c', by omega, by go_num, hL'⟩
            case measure => simp [intOf]; omega
        · have hok : (markB c ms).2 = true := by unfold markB; rw [if_neg (by omega)]
          have hmk := And.intro hm1 hok
          have HD : Hid (ms.getD c.step.toNat 0 = m) := Lib.hid (by rw [← hm1]; unfold markB; rw [if_neg (by omega)])
          have e1 : decide (0 ≤ c.step) = true := by simpa using g1
          have e2 : decide (c.step < (c.ml : Int)) = true := by simp; omega
          have j1 : 0 ≤ c.step := by omega
          have j2 : c.step < (c.ml : Int) := by omega
          clear g1 g2 hm1 hmn
          have HM := Lib.hid hmk
          have HP := Lib.hid (show passedB c ms = false by simp [passedB, hok, HL.out.1])
          clear hmk hok
          go_wp2_with fail
          refine (g3_mark (b := b) (is := is) (kl := kl) (w := w) (O := O) m true HM.out.1 HM.out.2 hG0).mono ?_
          rintro e V1 ⟨rfl, hG1⟩
          clear l1 l2 f17
          obtain ⟨l1, l2⟩ := hG1.out.2.x.facts
          have d23 := hG1.out.2.x.f23
          have d17 := hG1.out.2.x.f17
          obtain ⟨hn, hnil | ⟨bb, off, ha, hlb, hcs⟩⟩ := hG1.out.2.m
          · subst hnil; exfalso; simp at hn; omega
          have hcm := hcs c.step.toNat (by omega)
          rw [HD.out] at hcm
          rw [ha] at d17
          have HA := Lib.hid ha
          clear ha hcs hn hlb
          go_wp2_with fail
          refine (g3_passed false HP.out hG1).mono ?_
          rintro e V2 ⟨rfl, hG2⟩
          clear l1 l2 d23 d17 hcm
          have d24 := hG2.out.2.x.f24
          by_cases hp : c.paused = true
          · rw [hp] at d24
            clear hp
            obtain ⟨l1, l2⟩ := hG2.out.2.x.facts
            obtain ⟨Wa, hWa⟩ : ∃ Wa, V2.alloc (.cells #[.int .i64 now] 3) = Wa := ⟨_, rfl⟩
            obtain ⟨Wb, hWb⟩ : ∃ Wb, Wa.alloc (.cells #[.int .u8 14, .slice (some ⟨V2.heap.size, 0, none⟩) 1 1, .int .u8 15, .slice none 0 0] 44) = Wb := ⟨_, rfl⟩
            have na : Wa.heap.size = V2.heap.size + 1 := by rw [← hWa]; simp
            go_wp2_with fail
            refine (all_round now hG2 HOB.out HL.out.1 HL.out.2.1 HL.out.2.2.1 HL.out.2.2.2 gm gi gk T1.out hWa hWb).mono ?_
            rintro e W9 ⟨c', Wz, rfl, s1, s2, hL'⟩
            clear l1 l2 hWa hWb na
            go_wp2
            go_roundw
            case rel => exact ⟨k + 1, c', by omega, by go_num, hL'⟩
            case measure => simp [intOf]; omega
          · replace hp := Bool.eq_false_iff.2 hp
            rw [hp] at d24
            obtain ⟨q, hq⟩ : ∃ q, progB c kl = q := ⟨_, rfl⟩
            have HQ := Lib.hid hq
            have HRR := Lib.hid (show reachedB c ms kl = decide (m ≤ q) by
              have h1 := HM.out.1
              have h2 := HM.out.2
              have ha : activeB c false = true := by simp [activeB, HL.out.1, hp]
              unfold reachedB
              rw [h1, h2, ha, hq]
              simp)
            clear hp hq
            obtain ⟨l1, l2⟩ := hG2.out.2.x.facts
            go_wp2_with fail
            refine (g3_reached HSM.out (decide (m ≤ q)) HRR.out hG2).mono ?_
            rintro e V3 ⟨rfl, hG3⟩
            clear l1 l2 d24
            obtain ⟨l1, l2⟩ := hG3.out.2.x.facts
            go_wp2_with fail
            refine (g3_prog HSM.out q HQ.out hG3).mono ?_
            rintro e V4 ⟨rfl, hG4⟩
            clear l1 l2
            obtain ⟨l1, l2⟩ := hG4.out.2.x.facts
            obtain ⟨Wa, hWa⟩ : ∃ Wa, V4.alloc (.cells #[.int .i64 now] 3) = Wa := ⟨_, rfl⟩
            obtain ⟨Wb, hWb⟩ : ∃ Wb, Wa.alloc (.cells #[.int .u8 14, .slice (some ⟨V4.heap.size, 0, none⟩) 1 1, .int .u8 15, .slice none 0 0] 44) = Wb := ⟨_, rfl⟩
            have na : Wa.heap.size = V4.heap.size + 1 := by rw [← hWa]; simp
            go_wp2_with fail
            refine (all_round now hG4 HOB.out HL.out.1 HL.out.2.1 HL.out.2.2.1 HL.out.2.2.2 gm gi gk T1.out hWa hWb).mono ?_
            rintro e W9 ⟨c', Wz, rfl, s1, s2, hL'⟩
            clear l1 l2 hWa hWb na
            go_wp2
            go_roundw
            case rel => exact ⟨k + 1, c', by omega, by go_num, hL'⟩
            case measure => simp [intOf]; omega
      · obtain rfl : k = b.ml + 2 := by omega
        go_wp2_with fail
        refine (wakes_true wr).mono ?_
        rintro e W9 ⟨rfl, hb9⟩
        go_wp2
        go_ret
        exact ⟨rfl, hG0.out.1.b.trans (hb9.mono (by have := hG0.out.1.s; omega))⟩
  | true =>
    have HO := Lib.hid (show overB b now = false by
      have h := HR.out
      have ha : activeB b false = true := by
        cases ha : activeB b false with
        | true => rfl
        | false => simp [reachedB, ha] at h
      simp only [activeB, Bool.and_eq_true, beq_iff_eq] at ha
      simp [overB, activeB, ha.2])
    obtain ⟨l1, l2⟩ := F5.out.x.facts
    go_wp2_with fail
    refine (over_c b now false HO.out W5).mono ?_
    rintro e W6 ⟨rfl, hb⟩
    have F6 := Lib.hid (F5.out.next hb)
    clear l1 l2 hb F5 HO
    obtain ⟨l1, l2⟩ := F6.out.x.facts
    have f20 := F6.out.x.f20
    rw [HST.out] at f20
    go_wp2_with fail
    refine (own_any b ms is kl W6 gm gi gk (F6.out.m.mono (by have := F6.out.s; omega)).row (F6.out.i.mono (by have := F6.out.s; omega)).row (F6.out.k.mono (by have := F6.out.s; omega)).row).mono ?_
    rintro e W7 ⟨a1, c1, a2, c2, a3, c3, rfl, o1, o2, o3, b7⟩
    obtain ⟨W8, s1, s2, x8, b8, n8⟩ := new_store W7 (b.own a1 c1 a2 c2 a3 c3) W7.heap.size rfl
    unfold zB Br.own at s1 s2
    dsimp only at s1 s2
    have L0 : Hid (LP b (b.own a1 c1 a2 c2 a3 c3) ms is kl w W7.heap.size W8) := Lib.hid ⟨Lib.hid ⟨F6.out.next (b7.trans (b8.mono b7.size)), x8, (row_own (owns_below o1 b8 (Nat.le_refl _))).irow F6.out.m.1, (row_own (owns_below o2 b8 (Nat.le_refl _))).trow F6.out.i.1, (row_own (owns_below o3 b8 (Nat.le_refl _))).krow c3 F6.out.k.open.1⟩, HST.out, rfl, rfl, rfl⟩
    have HOB := Lib.hid (show w.heap.size + 1 ≤ W7.heap.size by have := F6.out.s; have := b7.size; omega)
    clear l1 l2 f20 o1 o2 o3 b7 x8 b8 n8 F6
    obtain ⟨O, hO⟩ : ∃ O, W7.heap.size = O := ⟨_, rfl⟩
    rw [hO] at L0 s1 s2 HOB
    go_wp2_with fail
    clear s1 s2 hO
    go_loopw [6] (fun s6 wr => ∃ (k : Nat) (c : Br), k ≤ b.ml + 2 ∧ s6 = .int .i64 k ∧ Hid (LP b c ms is kl w O wr)) (fun s6 _ => b.ml + 2 - (intOf s6).toNat)
    case atStart => exact ⟨0, _, by omega, rfl, L0⟩
    case round =>
      obtain ⟨k, c, hk, rfl, hL⟩ := hrel
      clear L0
      have hG0 := hL.out.1
      have HL := Lib.hid hL.out.2
      have f17 := hG0.out.1.x.f17
      clear hL
      by_cases hlt : k ≤ b.ml + 1
      · have hki : (k : Int) ≤ (b.ml : Int) + 1 := by omega
        obtain ⟨l1, l2⟩ := hG0.out.2.x.facts
        have hmn := hG0.out.2.m.1
        obtain ⟨m, hm1⟩ : ∃ m, (markB c ms).1 = m := ⟨_, rfl⟩
        by_cases g1 : c.step < 0
        · have hok : (markB c ms).2 = false := by simp [markB, g1]
          have hmk := And.intro hm1 hok
          have e1 : decide (0 ≤ c.step) = false := by simpa using g1
          clear g1 hm1 hmn
          have HM := Lib.hid hmk
          have HP := Lib.hid (show passedB c ms = true by simp [passedB, hok, HL.out.1])
          clear hmk hok
          go_wp2_with fail
          refine (g3_mark (b := b) (is := is) (kl := kl) (w := w) (O := O) m false HM.out.1 HM.out.2 hG0).mono ?_
          rintro e V1 ⟨rfl, hG1⟩
          clear l1 l2 f17
          obtain ⟨l1, l2⟩ := hG1.out.2.x.facts
          have d23 := hG1.out.2.x.f23
          have d17 := hG1.out.2.x.f17
          go_wp2_with fail
          refine (g3_passed true HP.out hG1).mono ?_
          rintro e V2 ⟨rfl, hG2⟩
          clear l1 l2 d23 d17
          have d24 := hG2.out.2.x.f24
          by_cases hp : c.paused = true
          · rw [hp] at d24
            clear hp
            obtain ⟨l1, l2⟩ := hG2.out.2.x.facts
            obtain ⟨Wa, hWa⟩ : ∃ Wa, V2.alloc (.cells #[.int .i64 now] 3) = Wa := ⟨_, rfl⟩
            obtain ⟨Wb, hWb⟩ : ∃ Wb, Wa.alloc (.cells #[.int .u8 14, .slice (some ⟨V2.heap.size, 0, none⟩) 1 1, .int .u8 15, .slice none 0 0] 44) = Wb := ⟨_, rfl⟩
            have na : Wa.heap.size = V2.heap.size + 1 := by rw [← hWa]; simp
            go_wp2_with fail
            refine (all_round now hG2 HOB.out HL.out.1 HL.out.2.1 HL.out.2.2.1 HL.out.2.2.2 gm gi gk T1.out hWa hWb).mono ?_
            rintro e W9 ⟨c', Wz, rfl, s1, s2, hL'⟩
            clear l1 l2 hWa hWb na
            go_wp2
            go_roundw
            case rel => exact ⟨k + 1, c', by omega, by go_num, hL'⟩
            case measure => simp [intOf]; omega
          · replace hp := Bool.eq_false_iff.2 hp
            rw [hp] at d24
            obtain ⟨q, hq⟩ : ∃ q, progB c kl = q := ⟨_, rfl⟩
            have HQ := Lib.hid hq
            have HRR := Lib.hid (show reachedB c ms kl = false by
              have h1 := HM.out.1
              have h2 := HM.out.2
              have ha : activeB c false = true := by simp [activeB, HL.out.1, hp]
              unfold reachedB
              rw [h1, h2, ha, hq]
              simp)
            clear hp hq
            obtain ⟨l1, l2⟩ := hG2.out.2.x.facts
            go_wp2_with fail
            refine (g3_reached HSM.out (false) HRR.out hG2).mono ?_
            rintro e V3 ⟨rfl, hG3⟩
            clear l1 l2 d24
            obtain ⟨l1, l2⟩ := hG3.out.2.x.facts
            obtain ⟨Wa, hWa⟩ : ∃ Wa, V3.alloc (.cells #[.int .i64 now] 3) = Wa := ⟨_, rfl⟩
            obtain ⟨Wb, hWb⟩ : ∃ Wb, Wa.alloc (.cells #[.int .u8 14, .slice (some ⟨V3.heap.size, 0, none⟩) 1 1, .int .u8 15, .slice none 0 0] 44) = Wb := ⟨_, rfl⟩
            have na : Wa.heap.size = V3.heap.size + 1 := by rw [← hWa]; simp
            go_wp2_with fail
            refine (all_round now hG3 HOB.out HL.out.1 HL.out.2.1 HL.out.2.2.1 HL.out.2.2.2 gm gi gk T1.out hWa hWb).mono ?_
            rintro e W9 ⟨c', Wz, rfl, s1, s2, hL'⟩
            clear l1 l2 hWa hWb na
            go_wp2
            go_roundw
            case rel => exact ⟨k + 1, c', by omega, by go_num, hL'⟩
            case measure => simp [intOf]; omega
        by_cases g2 : (c.ml : Int) ≤ c.step
        · have hok : (markB c ms).2 = false := by unfold markB; rw [if_pos (by omega)]
          have hmk := And.intro hm1 hok
          have e1 : decide (0 ≤ c.step) = true := by simpa using g1
          have e2 : decide (c.step < (c.ml : Int)) = false := by simpa using g2
          clear g1 g2 hm1 hmn
          have HM := Lib.hid hmk
          have HP := Lib.hid (show passedB c ms = true by simp [passedB, hok, HL.out.1])
          clear hmk hok
          go_wp2_with fail
          refine (g3_mark (b := b) (is := is) (kl := kl) (w := w) (O := O) m false HM.out.1 HM.out.2 hG0).mono ?_
          rintro e V1 ⟨rfl, hG1⟩
          clear l1 l2 f17
          obtain ⟨l1, l2⟩ := hG1.out.2.x.facts
          have d23 := hG1.out.2.x.f23
          have d17 := hG1.out.2.x.f17
          go_wp2_with fail
          refine (g3_passed true HP.out hG1).mono ?_
          rintro e V2 ⟨rfl, hG2⟩
          clear l1 l2 d23 d17
          have d24 := hG2.out.2.x.f24
          by_cases hp : c.paused = true
          · rw [hp] at d24
            clear hp
            obtain ⟨l1, l2⟩ := hG2.out.2.x.facts
            obtain ⟨Wa, hWa⟩ : ∃ Wa, V2.alloc (.cells #[.int .i64 now] 3) = Wa := ⟨_, rfl⟩
            obtain ⟨Wb, hWb⟩ : ∃ Wb, Wa.alloc (.cells #[.int .u8 14, .slice (some ⟨V2.heap.size, 0, none⟩) 1 1, .int .u8 15, .slice none 0 0] 44) = Wb := ⟨_, rfl⟩
            have na : Wa.heap.size = V2.heap.size + 1 := by rw [← hWa]; simp
            go_wp2_with fail
            refine (all_round now hG2 HOB.out HL.out.1 HL.out.2.1 HL.out.2.2.1 HL.out.2.2.2 gm gi gk T1.out hWa hWb).mono ?_
            rintro e W9 ⟨c', Wz, rfl, s1, s2, hL'⟩
            clear l1 l2 hWa hWb na
            go_wp2
            go_roundw
            case rel => exact ⟨k + 1, c', by omega, by go_num, hL'⟩
            case measure => simp [intOf]; omega
          · replace hp := Bool.eq_false_iff.2 hp
            rw [hp] at d24
            obtain ⟨q, hq⟩ : ∃ q, progB c kl = q := ⟨_, rfl⟩
            have HQ := Lib.hid hq
            have HRR := Lib.hid (show reachedB c ms kl = false by
              have h1 := HM.out.1
              have h2 := HM.out.2
              have ha : activeB c false = true := by simp [activeB, HL.out.1, hp]
              unfold reachedB
              rw [h1, h2, ha, hq]
              simp)
            clear hp hq
            obtain ⟨l1, l2⟩ := hG2.out.2.x.facts
            go_wp2_with fail
            refine (g3_reached HSM.out (false) HRR.out hG2).mono ?_
            rintro e V3 ⟨rfl, hG3⟩
            clear l1 l2 d24
            obtain ⟨l1, l2⟩ := hG3.out.2.x.facts
            obtain ⟨Wa, hWa⟩ : ∃ Wa, V3.alloc (.cells #[.int .i64 now] 3) = Wa := ⟨_, rfl⟩
            obtain ⟨Wb, hWb⟩ : ∃ Wb, Wa.alloc (.cells #[.int .u8 14, .slice (some ⟨V3.heap.size, 0, none⟩) 1 1, .int .u8 15, .slice none 0 0] 44) = Wb := ⟨_, rfl⟩
            have na : Wa.heap.size = V3.heap.size + 1 := by rw [← hWa]; simp
            go_wp2_with fail
            refine (all_round now hG3 HOB.out HL.out.1 HL.out.2.1 HL.out.2.2.1 HL.out.2.2.2 gm gi gk T1.out hWa hWb).mono ?_
            rintro e W9 ⟨c', Wz, rfl, s1, s2, hL'⟩
            clear l1 l2 hWa hWb na
            go_wp2
            go_roundw
            case rel => exact ⟨k + 1, c', by omega, by go_num, hL'⟩
            case measure => simp [intOf]; omega
        · have hok : (markB c ms).2 = true := by unfold markB; rw [if_neg (by omega)]
          have hmk := And.intro hm1 hok
          have HD : Hid (ms.getD c.step.toNat 0 = m) := Lib.hid (by rw [← hm1]; unfold markB; rw [if_neg (by omega)])
          have e1 : decide (0 ≤ c.step) = true := by simpa using g1
          have e2 : decide (c.step < (c.ml : Int)) = true := by simp; omega
          have j1 : 0 ≤ c.step := by omega
          have j2 : c.step < (c.ml : Int) := by omega
          clear g1 g2 hm1 hmn
          have HM := Lib.hid hmk
          have HP := Lib.hid (show passedB c ms = false by simp [passedB, hok, HL.out.1])
          clear hmk hok
          go_wp2_with fail
          refine (g3_mark (b := b) (is := is) (kl := kl) (w := w) (O := O) m true HM.out.1 HM.out.2 hG0).mono ?_
          rintro e V1 ⟨rfl, hG1⟩
          clear l1 l2 f17
          obtain ⟨l1, l2⟩ := hG1.out.2.x.facts
          have d23 := hG1.out.2.x.f23
          have d17 := hG1.out.2.x.f17
          obtain ⟨hn, hnil | ⟨bb, off, ha, hlb, hcs⟩⟩ := hG1.out.2.m
          · subst hnil; exfalso; simp at hn; omega
          have hcm := hcs c.step.toNat (by omega)
          rw [HD.out] at hcm
          rw [ha] at d17
          have HA := Lib.hid ha
          clear ha hcs hn hlb
          go_wp2_with fail
          refine (g3_passed false HP.out hG1).mono ?_
          rintro e V2 ⟨rfl, hG2⟩
          clear l1 l2 d23 d17 hcm
          have d24 := hG2.out.2.x.f24
          by_cases hp : c.paused = true
          · rw [hp] at d24
            clear hp
            obtain ⟨l1, l2⟩ := hG2.out.2.x.facts
            obtain ⟨Wa, hWa⟩ : ∃ Wa, V2.alloc (.cells #[.int .i64 now] 3) = Wa := ⟨_, rfl⟩
            obtain ⟨Wb, hWb⟩ : ∃ Wb, Wa.alloc (.cells #[.int .u8 14, .slice (some ⟨V2.heap.size, 0, none⟩) 1 1, .int .u8 15, .slice none 0 0] 44) = Wb := ⟨_, rfl⟩
            have na : Wa.heap.size = V2.heap.size + 1 := by rw [← hWa]; simp
            go_wp2_with fail
            refine (all_round now hG2 HOB.out HL.out.1 HL.out.2.1 HL.out.2.2.1 HL.out.2.2.2 gm gi gk T1.out hWa hWb).mono ?_
            rintro e W9 ⟨c', Wz, rfl, s1, s2, hL'⟩
            clear l1 l2 hWa hWb na
            go_wp2
            go_roundw
            case rel => exact ⟨k + 1, c', by omega, by go_num, hL'⟩
            case measure => simp [intOf]; omega
          · replace hp := Bool.eq_false_iff.2 hp
            rw [hp] at d24
            obtain ⟨q, hq⟩ : ∃ q, progB c kl = q := ⟨_, rfl⟩
            have HQ := Lib.hid hq
            have HRR := Lib.hid (show reachedB c ms kl = decide (m ≤ q) by
              have h1 := HM.out.1
              have h2 := HM.out.2
              have ha : activeB c false = true := by simp [activeB, HL.out.1, hp]
              unfold reachedB
              rw [h1, h2, ha, hq]
              simp)
            clear hp hq
            obtain ⟨l1, l2⟩ := hG2.out.2.x.facts
            go_wp2_with fail
            refine (g3_reached HSM.out (decide (m ≤ q)) HRR.out hG2).mono ?_
            rintro e V3 ⟨rfl, hG3⟩
            clear l1 l2 d24
            obtain ⟨l1, l2⟩ := hG3.out.2.x.facts
            go_wp2_with fail
            refine (g3_prog HSM.out q HQ.out hG3).mono ?_
            rintro e V4 ⟨rfl, hG4⟩
            clear l1 l2
            obtain ⟨l1, l2⟩ := hG4.out.2.x.facts
            obtain ⟨Wa, hWa⟩ : ∃ Wa, V4.alloc (.cells #[.int .i64 now] 3) = Wa := ⟨_, rfl⟩
            obtain ⟨Wb, hWb⟩ : ∃ Wb, Wa.alloc (.cells #[.int .u8 14, .slice (some ⟨V4.heap.size, 0, none⟩) 1 1, .int .u8 15, .slice none 0 0] 44) = Wb := ⟨_, rfl⟩
            have na : Wa.heap.size = V4.heap.size + 1 := by rw [← hWa]; simp
            go_wp2_with fail
            refine (all_round now hG4 HOB.out HL.out.1 HL.out.2.1 HL.out.2.2.1 HL.out.2.2.2 gm gi gk T1.out hWa hWb).mono ?_
            rintro e W9 ⟨c', Wz, rfl, s1, s2, hL'⟩
            clear l1 l2 hWa hWb na
            go_wp2
            go_roundw
            case rel => exact ⟨k + 1, c', by omega, by go_num, hL'⟩
            case measure => simp [intOf]; omega
      · obtain rfl : k = b.ml + 2 := by omega
        go_wp2_with fail
        refine (wakes_true wr).mono ?_
        rintro e W9 ⟨rfl, hb9⟩
        go_wp2
        go_ret
        exact ⟨rfl, hG0.out.1.b.trans (hb9.mono (by have := hG0.out.1.s; omega))⟩
end Go.Proofs.Ytpneohekghpkbaa
