/- The contract of All, at a pause and a go behind it. -/
import Derived.Test.YtpneohekghpkbaaS
namespace Go.Proofs.Ytpneohekghpkbaa
open Go.RowKit Go.Shelf
attribute [local go_sem ↓] load_rule
attribute [local go_sem ↓] store_rule
theorem stores_drewN (w : World) (n : Nat) (v u : Value) : Stores (w.drewN n) v u = Stores w v u := rfl
theorem stored_drewN (w : World) (n : Nat) (a : Option Addr) (cs : Array Value) : storedRow (w.drewN n) (.pointer a) (.agg cs) = (storedRow w (.pointer a) (.agg cs)).drewN n := by cases a <;> rfl
attribute [local go_sem] loads_drew rowOf_drew loads_drewN rowOf_drewN

/-- What stands in All, all along. -/
structure AI (b : Br) (ms : List Int) (is : List It) (kl : List Kp) (w : World) (c : Br) (W : World) : Prop where
  x : BAt W w.heap.size c
  y : BAt W (w.heap.size + 1) b0
  m : W.ownsRow (w.heap.size + 1 + 1) 3 1 (.slice c.ma c.ml c.mc) c.ml (mvals ms)
  i : W.ownsRow (w.heap.size + 1 + 1) 48 4 (.slice c.ia c.il c.ic) c.il (tvals is)
  k : W.ownsRow (w.heap.size + 1 + 1) 32 8 (.slice c.ka c.kl c.kc) c.kl (kvals kl)
  bel : Below w.heap.size w W
  s : w.heap.size + 1 + 1 ≤ W.heap.size
  t : c.state = b.state ∧ c.ml = b.ml ∧ c.il = b.il ∧ c.kl = b.kl
theorem AI.drewN {b : Br} {ms : List Int} {is : List It} {kl : List Kp} {w : World} {c : Br} {W : World} (h : AI b ms is kl w c W) (n : Nat) : AI b ms is kl w c (W.drewN n) :=
  ⟨h.x, h.y, h.m, h.i, h.k, below_drewN h.bel n, h.s, h.t⟩

/-- What All leaves. -/
def AllPost (b : Br) (ms : List Int) (is : List It) (kl : List Kp) (w : World) (e : Ending) (w' : World) : Prop :=
  ∃ c : Br, e = .returned (.agg #[.int .i64 c.epoch, .int .i64 c.seq, .bool c.set, .int .i64 c.desired, .int .i64 c.minh, .int .i64 c.surplus, .int .i64 c.pool, .int .i64 c.hookIn, .int .i64 c.hookOut, .int .i64 c.warmup, .int .i64 c.drain, .int .i64 c.reap, .int .i64 c.timeout, .int .i64 c.fails, .int .i64 c.delay, .int .i64 c.version, .bool c.skip, .slice c.ma c.ml c.mc, .slice c.ia c.il c.ic, .slice c.ka c.kl c.kc, .int .u8 c.state, .int .i64 c.ffrom, .int .i64 c.target, .int .i64 c.step, .bool c.paused, .int .i64 c.since, .int .i64 c.rfails]) ∧ (c.state = b.state ∧ c.ml = b.ml ∧ c.il = b.il ∧ c.kl = b.kl) ∧ w'.ownsRow w.heap.size 3 1 (.slice c.ma c.ml c.mc) c.ml (mvals ms) ∧ w'.ownsRow w.heap.size 48 4 (.slice c.ia c.il c.ic) c.il (tvals is) ∧
    w'.ownsRow w.heap.size 32 8 (.slice c.ka c.kl c.kc) c.kl (kvals kl) ∧ Below w.heap.size w w'

theorem refreshB_keeps' (k x : Int) (b : Br) : (refreshB k x b).ma = b.ma ∧ (refreshB k x b).ml = b.ml ∧ (refreshB k x b).mc = b.mc ∧ (refreshB k x b).ia = b.ia ∧ (refreshB k x b).il = b.il ∧ (refreshB k x b).ic = b.ic ∧
    (refreshB k x b).ka = b.ka ∧ (refreshB k x b).kl = b.kl ∧ (refreshB k x b).kc = b.kc ∧ (refreshB k x b).state = b.state := by
  unfold refreshB
  split
  · split <;> split <;> simp
  · simp

/-- Behind Apply: what it hands back is stored. -/
theorem AI.step {b : Br} {ms : List Int} {is : List It} {kl : List Kp} {w : World} {c : Br} {W W' : World} (h : AI b ms is kl w c W) (k x : Int) {e : Ending} (hp : ApplyPost k x c ms is kl W e W') :
    ∃ (c' : Br) (W2 : World), e = .returned (.agg #[.int .i64 c'.epoch, .int .i64 c'.seq, .bool c'.set, .int .i64 c'.desired, .int .i64 c'.minh, .int .i64 c'.surplus, .int .i64 c'.pool, .int .i64 c'.hookIn, .int .i64 c'.hookOut, .int .i64 c'.warmup, .int .i64 c'.drain, .int .i64 c'.reap, .int .i64 c'.timeout, .int .i64 c'.fails, .int .i64 c'.delay, .int .i64 c'.version, .bool c'.skip, .slice c'.ma c'.ml c'.mc, .slice c'.ia c'.il c'.ic, .slice c'.ka c'.kl c'.kc, .int .u8 c'.state, .int .i64 c'.ffrom, .int .i64 c'.target, .int .i64 c'.step, .bool c'.paused, .int .i64 c'.since, .int .i64 c'.rfails]) ∧ Stores W' (.pointer (some ⟨w.heap.size, 0, none⟩)) (.agg #[.int .i64 c'.epoch, .int .i64 c'.seq, .bool c'.set, .int .i64 c'.desired, .int .i64 c'.minh, .int .i64 c'.surplus, .int .i64 c'.pool, .int .i64 c'.hookIn, .int .i64 c'.hookOut, .int .i64 c'.warmup, .int .i64 c'.drain, .int .i64 c'.reap, .int .i64 c'.timeout, .int .i64 c'.fails, .int .i64 c'.delay, .int .i64 c'.version, .bool c'.skip, .slice c'.ma c'.ml c'.mc, .slice c'.ia c'.il c'.ic, .slice c'.ka c'.kl c'.kc, .int .u8 c'.state, .int .i64 c'.ffrom, .int .i64 c'.target, .int .i64 c'.step, .bool c'.paused, .int .i64 c'.since, .int .i64 c'.rfails]) ∧ storedRow W' (.pointer (some ⟨w.heap.size, 0, none⟩)) (.agg #[.int .i64 c'.epoch, .int .i64 c'.seq, .bool c'.set, .int .i64 c'.desired, .int .i64 c'.minh, .int .i64 c'.surplus, .int .i64 c'.pool, .int .i64 c'.hookIn, .int .i64 c'.hookOut, .int .i64 c'.warmup, .int .i64 c'.drain, .int .i64 c'.reap, .int .i64 c'.timeout, .int .i64 c'.fails, .int .i64 c'.delay, .int .i64 c'.version, .bool c'.skip, .slice c'.ma c'.ml c'.mc, .slice c'.ia c'.il c'.ic, .slice c'.ka c'.kl c'.kc, .int .u8 c'.state, .int .i64 c'.ffrom, .int .i64 c'.target, .int .i64 c'.step, .bool c'.paused, .int .i64 c'.since, .int .i64 c'.rfails]) = W2 ∧ Hid (AI b ms is kl w c' W2) := by
  obtain ⟨a1, c1, a2, c2, a3, c3, c', hc, he, o1, o2, o3, hb⟩ := hp
  have hs := h.s
  obtain ⟨W2, s1, s2, x2, b2, n2, oth⟩ := (h.x.below hb (by omega)).stores c'
  obtain ⟨t1, t2, t3, t4, t5, t6, t7, t8, t9, t10⟩ := refreshB_keeps' k x (c.own a1 c1 a2 c2 a3 c3)
  rw [← hc] at t1 t2 t3 t4 t5 t6 t7 t8 t9 t10
  have u1 : c'.ma = a1 := t1
  have u2 : c'.ml = c.ml := t2
  have u3 : c'.mc = c1 := t3
  have u4 : c'.ia = a2 := t4
  have u5 : c'.il = c.il := t5
  have u6 : c'.ic = c2 := t6
  have u7 : c'.ka = a3 := t7
  have u8 : c'.kl = c.kl := t8
  have u9 : c'.kc = c3 := t9
  have u10 : c'.state = c.state := t10
  have key : ∀ {e k n : Nat} {v : Value} {xs : List Value}, W'.ownsRow W.heap.size e k v n xs → W2.ownsRow (w.heap.size + 1 + 1) e k v n xs := fun ho => owns_mono (owns_other ho (by omega) (b2 _ (Nat.le_refl _)) oth) hs
  refine ⟨c', W2, he, s1, s2, Lib.hid ⟨x2, (oth _ (by omega)).trans (h.y.below hb (by omega)), ?_, ?_, ?_, ?_, ?_, ?_⟩⟩
  · rw [u1, u2, u3]; exact key o1
  · rw [u4, u5, u6]; exact key o2
  · rw [u7, u8, u9]; exact key o3
  · exact (h.bel.trans (hb.mono (by omega))).trans (b2 _ (Nat.le_refl _))
  · have := hb.size; omega
  · rw [u10, u2, u5, u8]; exact h.t

set_option maxRecDepth 100000 in
set_option maxHeartbeats 2000000 in
theorem all_any (b : Br) (now : Int) (ms : List Int) (is : List It) (kl : List Kp) (vb vr : Nat) (w : World) (hr : vr < w.heap.size) (r0 : w.cell? ⟨vr, 0, none⟩ = some (.int .u8 14)) (r1 : w.cell? ⟨vr, 1, none⟩ = some (.slice (some ⟨vb, 0, none⟩) 1 1))
    (r2 : w.cell? ⟨vr, 2, none⟩ = some (.int .u8 15)) (r3 : w.cell? ⟨vr, 3, none⟩ = some (.slice none 0 0)) (hl : LRow w w.heap.size (.slice (some ⟨vb, 0, none⟩) 1 1) (some now)) (h1 : b.ml ≤ 40) (h2 : b.il ≤ 40) (h3 : b.kl ≤ 40)
    (hm : Row w w.heap.size b.ma b.ml (mvals ms) 1) (hi : Row w w.heap.size b.ia b.il (tvals is) 4) (hk : Row w w.heap.size b.ka b.kl (kvals kl) 8) :
    Calls Try.prog 17 #[.agg #[.int .i64 b.epoch, .int .i64 b.seq, .bool b.set, .int .i64 b.desired, .int .i64 b.minh, .int .i64 b.surplus, .int .i64 b.pool, .int .i64 b.hookIn, .int .i64 b.hookOut, .int .i64 b.warmup, .int .i64 b.drain, .int .i64 b.reap, .int .i64 b.timeout, .int .i64 b.fails, .int .i64 b.delay, .int .i64 b.version, .bool b.skip, .slice b.ma b.ml b.mc, .slice b.ia b.il b.ic, .slice b.ka b.kl b.kc, .int .u8 b.state, .int .i64 b.ffrom, .int .i64 b.target, .int .i64 b.step, .bool b.paused, .int .i64 b.since, .int .i64 b.rfails], .slice (some ⟨vr, 0, none⟩) 2 2] w (AllPost b ms is kl w) := by
  obtain ⟨W1, W2, hW1, hW2, n1, x2, y2, bw2, n2⟩ := two_blocks b w
  obtain ⟨l1, l2⟩ := x2.facts
  have X2 := Lib.hid x2
  have Y2 := Lib.hid y2
  have B2 := Lib.hid bw2
  have N2 := Lib.hid n2
  have HL := Lib.hid hl
  have HM := Lib.hid hm
  have HI := Lib.hid hi
  have HK := Lib.hid hk
  have HR := Lib.hid (And.intro r0 (And.intro r1 (And.intro r2 r3)))
  have HV := Lib.hid hr
  unfold zB at hW2
  clear x2 y2 bw2 n2 hl hm hi hk r0 r1 r2 r3 hr
  go_enter Try.func17, Try.ntmps17
  go_wp2_with fail
  refine (own_any b ms is kl W2 h1 h2 h3 ((HM.out.below B2.out (Nat.le_refl _)).mono (by have := N2.out; omega)) ((HI.out.below B2.out (Nat.le_refl _)).mono (by have := N2.out; omega)) ((HK.out.below B2.out (Nat.le_refl _)).mono (by have := N2.out; omega))).mono ?_
  rintro e W4 ⟨a1, c1, a2, c2, a3, c3, rfl, q1, q2, q3, b4⟩
  have hn2 := N2.out
  have x4 := X2.out.below b4 (by omega)
  have y4 := Y2.out.below b4 (by omega)
  obtain ⟨W5, s1, s2, x5, b5, n5, o5⟩ := x4.stores (b.own a1 c1 a2 c2 a3 c3)
  unfold Br.own at s1 s2
  dsimp only at s1 s2
  have bs := b4.size
  have A5 : Hid (AI b ms is kl w (b.own a1 c1 a2 c2 a3 c3) W5) := Lib.hid ⟨x5, (o5 _ (by omega)).trans y4, owns_mono (owns_other q1 (by omega) (b5 _ (Nat.le_refl _)) o5) (by omega), owns_mono (owns_other q2 (by omega) (b5 _ (Nat.le_refl _)) o5) (by omega), owns_mono (owns_other q3 (by omega) (b5 _ (Nat.le_refl _)) o5) (by omega), (B2.out.trans (b4.mono (by omega))).trans (b5 _ (Nat.le_refl _)), by omega, rfl, rfl, rfl, rfl⟩
  clear l1 l2 q1 q2 q3 b4 hn2 x4 y4 x5 b5 n5 o5 bs
  go_wp2_with fail
  clear s1 s2 hW1 hW2
  go_loopw [5] (fun s5 wr => ∃ (k : Nat) (c : Br), k ≤ 2 ∧ s5 = .int .i64 k ∧ Hid (AI b ms is kl w c wr)) (fun s5 _ => 2 - (intOf s5).toNat)
  case atStart => exact ⟨0, _, by omega, rfl, A5⟩
  case round =>
    obtain ⟨k, c, hk, rfl, hA⟩ := hrel
    clear A5
    obtain ⟨l1, l2⟩ := hA.out.x.facts
    obtain ⟨l3, l4⟩ := (hA.out.drewN 1).x.facts
    rw [← World.drew_is_drewN] at l3 l4
    have r0 : wr.cell? ⟨vr, 0, none⟩ = some (.int .u8 14) := (hA.out.bel.cell (p := ⟨vr, 0, none⟩) HV.out).trans HR.out.1
    have r1 : wr.cell? ⟨vr, 1, none⟩ = some (.slice (some ⟨vb, 0, none⟩) 1 1) := (hA.out.bel.cell (p := ⟨vr, 1, none⟩) HV.out).trans HR.out.2.1
    have r2 : wr.cell? ⟨vr, 2, none⟩ = some (.int .u8 15) := (hA.out.bel.cell (p := ⟨vr, 2, none⟩) HV.out).trans HR.out.2.2.1
    have r3 : wr.cell? ⟨vr, 3, none⟩ = some (.slice none 0 0) := (hA.out.bel.cell (p := ⟨vr, 3, none⟩) HV.out).trans HR.out.2.2.2
    have AP14 : Hid (∀ n, Calls Try.prog 18 #[.agg #[.int .i64 c.epoch, .int .i64 c.seq, .bool c.set, .int .i64 c.desired, .int .i64 c.minh, .int .i64 c.surplus, .int .i64 c.pool, .int .i64 c.hookIn, .int .i64 c.hookOut, .int .i64 c.warmup, .int .i64 c.drain, .int .i64 c.reap, .int .i64 c.timeout, .int .i64 c.fails, .int .i64 c.delay, .int .i64 c.version, .bool c.skip, .slice c.ma c.ml c.mc, .slice c.ia c.il c.ic, .slice c.ka c.kl c.kc, .int .u8 c.state, .int .i64 c.ffrom, .int .i64 c.target, .int .i64 c.step, .bool c.paused, .int .i64 c.since, .int .i64 c.rfails], .agg #[.int .u8 14, .slice (some ⟨vb, 0, none⟩) 1 1]] (wr.drewN n) (ApplyPost 14 now c ms is kl (wr.drewN n))) := Lib.hid (fun n => by
      have h := hA.out.drewN n
      obtain ⟨-, t2, t3, t4⟩ := h.t
      exact apply14 c now ms is kl vb 1 _ ((HL.out.below h.bel (Nat.le_refl _)).mono h.bel.size) (by omega) (by omega) (by omega) (row_own h.m) (row_own h.i) (row_own h.k))
    have AP15 : Hid (∀ n, Calls Try.prog 18 #[.agg #[.int .i64 c.epoch, .int .i64 c.seq, .bool c.set, .int .i64 c.desired, .int .i64 c.minh, .int .i64 c.surplus, .int .i64 c.pool, .int .i64 c.hookIn, .int .i64 c.hookOut, .int .i64 c.warmup, .int .i64 c.drain, .int .i64 c.reap, .int .i64 c.timeout, .int .i64 c.fails, .int .i64 c.delay, .int .i64 c.version, .bool c.skip, .slice c.ma c.ml c.mc, .slice c.ia c.il c.ic, .slice c.ka c.kl c.kc, .int .u8 c.state, .int .i64 c.ffrom, .int .i64 c.target, .int .i64 c.step, .bool c.paused, .int .i64 c.since, .int .i64 c.rfails], .agg #[.int .u8 15, .slice none 0 0]] (wr.drewN n) (ApplyPost 15 0 c ms is kl (wr.drewN n))) := Lib.hid (fun n => by
      have h := hA.out.drewN n
      obtain ⟨-, t2, t3, t4⟩ := h.t
      exact apply15 c 0 ms is kl _ rfl (by omega) (by omega) (by omega) (row_own h.m) (row_own h.i) (row_own h.k))
    obtain rfl | rfl | rfl : k = 0 ∨ k = 1 ∨ k = 2 := by omega
    · go_wp2_with fail
      refine wp_region_any (by kernel_rfl) ?_
      change wpAny _ _ _ _ _ _ _ (World.drew _)
      refine wpAny_take (i := 1) (v := ?v1) rfl (by kernel_rfl) (by kernel_rfl) (by kernel_rfl) (fun _ _ _ h => h) (Or.inl ⟨by rfl, ?h1⟩) ?r1
      case h1 => (intro w; go_simp; with_reducible rfl)
      refine wpAny_take (i := 2) (v := ?v2) rfl (by kernel_rfl) (by kernel_rfl) (by kernel_rfl) (fun _ _ _ h => h) (Or.inl ⟨by rfl, ?h2⟩) ?r2
      case h2 => (intro w; go_simp; with_reducible rfl)
      refine wpAny_take (i := 3) (v := ?v3) rfl (by kernel_rfl) (by kernel_rfl) (by kernel_rfl) (fun _ _ _ h => h) (Or.inl ⟨by rfl, ?h3⟩) ?r3
      case h3 => (intro w; go_simp; with_reducible rfl)
      refine wpAny_ready (rs := [0, 4]) (by kernel_rfl) (by simp) ?_
      refine AllReady.cons rfl (fun K hK => ?_) (AllReady.cons rfl (fun K hK => ?_) AllReady.nil)
      · simp only [List.getElem_toArray, List.getElem_cons_zero]
        go_simp
        refine hK _ _ ?_
        clear hK K
        refine wpAny_ready (rs := [4]) (by kernel_rfl) (by simp) ?_
        refine AllReady.cons rfl (fun K hK => ?_) AllReady.nil
        simp only [List.getElem_toArray, List.getElem_cons_zero, List.getElem_cons_succ]
        go_simp
        refine hK _ _ ?_
        clear hK K
        refine wpAny_ready (rs := [5]) (by kernel_rfl) (by simp) ?_
        refine AllReady.cons rfl (fun K hK => ?_) AllReady.nil
        simp only [List.getElem_toArray, List.getElem_cons_zero, List.getElem_cons_succ]
        go_simp
        refine (AP14.out 1).mono ?_
        rintro e w' hp
        obtain ⟨c', W9, rfl, s1, s2, hA'⟩ := (hA.out.drewN 1).step 14 now hp
        clear hp
        refine hK _ _ ?_
        clear hK K
        refine wpAny_ready (rs := [6]) (by kernel_rfl) (by simp) ?_
        refine AllReady.cons rfl (fun K hK => ?_) AllReady.nil
        simp only [List.getElem_toArray, List.getElem_cons_zero, List.getElem_cons_succ]
        go_simp
        refine hK _ _ ?_
        clear hK K
        refine wpAny_done (by kernel_rfl) ?_ _
        clear l1 l2 l3 l4 s1 s2
        go_wp2
        go_roundw
        case rel => exact ⟨1, c', by omega, by go_num, hA'⟩
        case measure => simp [intOf]
      · simp only [List.getElem_toArray, List.getElem_cons_zero, List.getElem_cons_succ]
        go_simp
        refine hK _ _ ?_
        clear hK K
        refine wpAny_ready (rs := [0]) (by kernel_rfl) (by simp) ?_
        refine AllReady.cons rfl (fun K hK => ?_) AllReady.nil
        simp only [List.getElem_toArray, List.getElem_cons_zero]
        go_simp
        refine hK _ _ ?_
        clear hK K
        refine wpAny_ready (rs := [5]) (by kernel_rfl) (by simp) ?_
        refine AllReady.cons rfl (fun K hK => ?_) AllReady.nil
        simp only [List.getElem_toArray, List.getElem_cons_zero, List.getElem_cons_succ]
        go_simp
        refine (AP14.out 1).mono ?_
        rintro e w' hp
        obtain ⟨c', W9, rfl, s1, s2, hA'⟩ := (hA.out.drewN 1).step 14 now hp
        clear hp
        refine hK _ _ ?_
        clear hK K
        refine wpAny_ready (rs := [6]) (by kernel_rfl) (by simp) ?_
        refine AllReady.cons rfl (fun K hK => ?_) AllReady.nil
        simp only [List.getElem_toArray, List.getElem_cons_zero, List.getElem_cons_succ]
        go_simp
        refine hK _ _ ?_
        clear hK K
        refine wpAny_done (by kernel_rfl) ?_ _
        clear l1 l2 l3 l4 s1 s2
        go_wp2
        go_roundw
        case rel => exact ⟨1, c', by omega, by go_num, hA'⟩
        case measure => simp [intOf]
    · go_wp2_with fail
      refine wp_region_any (by kernel_rfl) ?_
      change wpAny _ _ _ _ _ _ _ (World.drew _)
      refine wpAny_take (i := 1) (v := ?v1b) rfl (by kernel_rfl) (by kernel_rfl) (by kernel_rfl) (fun _ _ _ h => h) (Or.inl ⟨by rfl, ?h1b⟩) ?r1b
      case h1b => (intro w; go_simp; with_reducible rfl)
      refine wpAny_take (i := 2) (v := ?v2b) rfl (by kernel_rfl) (by kernel_rfl) (by kernel_rfl) (fun _ _ _ h => h) (Or.inl ⟨by rfl, ?h2b⟩) ?r2b
      case h2b => (intro w; go_simp; with_reducible rfl)
      refine wpAny_take (i := 3) (v := ?v3b) rfl (by kernel_rfl) (by kernel_rfl) (by kernel_rfl) (fun _ _ _ h => h) (Or.inl ⟨by rfl, ?h3b⟩) ?r3b
      case h3b => (intro w; go_simp; with_reducible rfl)
      refine wpAny_ready (rs := [0, 4]) (by kernel_rfl) (by simp) ?_
      refine AllReady.cons rfl (fun K hK => ?_) (AllReady.cons rfl (fun K hK => ?_) AllReady.nil)
      · simp only [List.getElem_toArray, List.getElem_cons_zero]
        go_simp
        refine hK _ _ ?_
        clear hK K
        refine wpAny_ready (rs := [4]) (by kernel_rfl) (by simp) ?_
        refine AllReady.cons rfl (fun K hK => ?_) AllReady.nil
        simp only [List.getElem_toArray, List.getElem_cons_zero, List.getElem_cons_succ]
        go_simp
        refine hK _ _ ?_
        clear hK K
        refine wpAny_ready (rs := [5]) (by kernel_rfl) (by simp) ?_
        refine AllReady.cons rfl (fun K hK => ?_) AllReady.nil
        simp only [List.getElem_toArray, List.getElem_cons_zero, List.getElem_cons_succ]
        go_simp
        refine (AP15.out 1).mono ?_
        rintro e w' hp
        obtain ⟨c', W9, rfl, s1, s2, hA'⟩ := (hA.out.drewN 1).step 15 0 hp
        clear hp
        refine hK _ _ ?_
        clear hK K
        refine wpAny_ready (rs := [6]) (by kernel_rfl) (by simp) ?_
        refine AllReady.cons rfl (fun K hK => ?_) AllReady.nil
        simp only [List.getElem_toArray, List.getElem_cons_zero, List.getElem_cons_succ]
        go_simp
        refine hK _ _ ?_
        clear hK K
        refine wpAny_done (by kernel_rfl) ?_ _
        clear l1 l2 l3 l4 s1 s2
        go_wp2
        go_roundw
        case rel => exact ⟨2, c', by omega, by go_num, hA'⟩
        case measure => simp [intOf]
      · simp only [List.getElem_toArray, List.getElem_cons_zero, List.getElem_cons_succ]
        go_simp
        refine hK _ _ ?_
        clear hK K
        refine wpAny_ready (rs := [0]) (by kernel_rfl) (by simp) ?_
        refine AllReady.cons rfl (fun K hK => ?_) AllReady.nil
        simp only [List.getElem_toArray, List.getElem_cons_zero]
        go_simp
        refine hK _ _ ?_
        clear hK K
        refine wpAny_ready (rs := [5]) (by kernel_rfl) (by simp) ?_
        refine AllReady.cons rfl (fun K hK => ?_) AllReady.nil
        simp only [List.getElem_toArray, List.getElem_cons_zero, List.getElem_cons_succ]
        go_simp
        refine (AP15.out 1).mono ?_
        rintro e w' hp
        obtain ⟨c', W9, rfl, s1, s2, hA'⟩ := (hA.out.drewN 1).step 15 0 hp
        clear hp
        refine hK _ _ ?_
        clear hK K
        refine wpAny_ready (rs := [6]) (by kernel_rfl) (by simp) ?_
        refine AllReady.cons rfl (fun K hK => ?_) AllReady.nil
        simp only [List.getElem_toArray, List.getElem_cons_zero, List.getElem_cons_succ]
        go_simp
        refine hK _ _ ?_
        clear hK K
        refine wpAny_done (by kernel_rfl) ?_ _
        clear l1 l2 l3 l4 s1 s2
        go_wp2
        go_roundw
        case rel => exact ⟨2, c', by omega, by go_num, hA'⟩
        case measure => simp [intOf]
    · obtain ⟨W9, s1, s2, y9, b9, n9, o9⟩ := hA.out.y.stores c
      have e9 : ∀ {e k n : Nat} {v : Value} {xs : List Value}, wr.ownsRow (w.heap.size + 1 + 1) e k v n xs → W9.ownsRow w.heap.size e k v n xs := fun h => owns_mono (owns_other h (by omega) (b9 _ (Nat.le_refl _)) o9) (by omega)
      have q1 := e9 hA.out.m
      have q2 := e9 hA.out.i
      have q3 := e9 hA.out.k
      have bw9 := hA.out.bel.trans (b9 _ (by omega))
      have Q := Lib.hid (And.intro q1 (And.intro q2 (And.intro q3 bw9)))
      have Y9 := Lib.hid y9
      clear b9 n9 o9 q1 q2 q3 bw9 y9 r0 r1 r2 r3 e9
      go_wp2
      clear s1 s2 l1 l2 l3 l4
      exact bodyPost_ret (results_cell30 rfl _ rfl Y9.out) rfl ⟨c, rfl, hA.out.t, Q.out.1, Q.out.2.1, Q.out.2.2.1, Q.out.2.2.2⟩
end Go.Proofs.Ytpneohekghpkbaa
