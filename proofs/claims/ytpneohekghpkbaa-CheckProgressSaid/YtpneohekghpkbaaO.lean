/- The walk of CheckProgress. -/
import Derived.Test.YtpneohekghpkbaaN
namespace Go.Proofs.Ytpneohekghpkbaa
open Go.RowKit Go.Shelf
attribute [local go_sem ↓] load_rule
attribute [local go_sem ↓] store_rule
attribute [local go_sem] loads_drew rowOf_drew

/-- What stands, all along the walk. -/
structure FP (b : Br) (k : Kp) (ms : List Int) (is : List It) (kl : List Kp) (w W : World) : Prop where
  x : BAt W w.heap.size b
  kc : KCells W (w.heap.size + 1) 0 k
  m : IRow W w.heap.size b.ma b.ml ms
  i : TRow W w.heap.size b.ia b.il is
  k : KRow W w.heap.size (.slice b.ka b.kl b.kc) kl
  s : w.heap.size + 1 + 1 ≤ W.heap.size
  b : Below w.heap.size w W
theorem FP.next {b : Br} {k : Kp} {ms : List Int} {is : List It} {kl : List Kp} {w W W' : World} (h : FP b k ms is kl w W) (hb : Below W.heap.size W W') : FP b k ms is kl w W' := by
  have hs := h.s
  exact ⟨h.x.below hb (by omega), h.kc.below hb (by omega), h.m.below hb (by omega), h.i.below hb (by omega), h.k.below hb (by omega), by have := hb.size; omega, h.b.trans (hb.mono (by omega))⟩

theorem great_c (b : Br) (r : Bool) (hr : greatB b = r) (w : World) : Calls Try.prog 6 #[.agg #[.int .i64 b.epoch, .int .i64 b.seq, .bool b.set, .int .i64 b.desired, .int .i64 b.minh, .int .i64 b.surplus, .int .i64 b.pool, .int .i64 b.hookIn, .int .i64 b.hookOut, .int .i64 b.warmup, .int .i64 b.drain, .int .i64 b.reap, .int .i64 b.timeout, .int .i64 b.fails, .int .i64 b.delay, .int .i64 b.version, .bool b.skip, .slice b.ma b.ml b.mc, .slice b.ia b.il b.ic, .slice b.ka b.kl b.kc, .int .u8 b.state, .int .i64 b.ffrom, .int .i64 b.target, .int .i64 b.step, .bool b.paused, .int .i64 b.since, .int .i64 b.rfails]] w fun e w' => e = .returned (.bool r) ∧ Below w.heap.size w w' := by
  subst hr; exact great_any b w
theorem great_no {b : Br} (h : greatB b = false) : b.il ≤ 40 ∧ b.kl ≤ 40 ∧ b.ml ≤ 40 := by
  simp only [greatB, Bool.or_eq_false_iff, decide_eq_false_iff_not] at h
  omega

theorem wakes_true (w : World) : Calls Try.prog 8 #[] w fun e w' => e = .returned (.bool true) ∧ Below w.heap.size w w' := wakes_any w
/-- Serving, called in a world that is drawn and has a new block. -/
theorem serving_fp (b : Br) (k : Kp) (ms : List Int) (is : List It) (kl : List Kp) (hsmall : kl.length ≤ 100) (n : Int) (hn : servB b kl = n) (w W : World) (F : FP b k ms is kl w W) (o : Obj) :
    Calls Try.prog 10 #[.agg #[.int .i64 b.epoch, .int .i64 b.seq, .bool b.set, .int .i64 b.desired, .int .i64 b.minh, .int .i64 b.surplus, .int .i64 b.pool, .int .i64 b.hookIn, .int .i64 b.hookOut, .int .i64 b.warmup, .int .i64 b.drain, .int .i64 b.reap, .int .i64 b.timeout, .int .i64 b.fails, .int .i64 b.delay, .int .i64 b.version, .bool b.skip, .slice b.ma b.ml b.mc, .slice b.ia b.il b.ic, .slice b.ka b.kl b.kc, .int .u8 b.state, .int .i64 b.ffrom, .int .i64 b.target, .int .i64 b.step, .bool b.paused, .int .i64 b.since, .int .i64 b.rfails], .int .i64 (versionOf b)] (W.alloc o).drew fun e W' => e = .returned (.int .i64 n) ∧ Loads W' (.pointer (some ⟨w.heap.size, 0, none⟩)) ∧ rowOf W' (.pointer (some ⟨w.heap.size, 0, none⟩)) = #[.int .i64 b.epoch, .int .i64 b.seq, .bool b.set, .int .i64 b.desired, .int .i64 b.minh, .int .i64 b.surplus, .int .i64 b.pool, .int .i64 b.hookIn, .int .i64 b.hookOut, .int .i64 b.warmup, .int .i64 b.drain, .int .i64 b.reap, .int .i64 b.timeout, .int .i64 b.fails, .int .i64 b.delay, .int .i64 b.version, .bool b.skip, .slice b.ma b.ml b.mc, .slice b.ia b.il b.ic, .slice b.ka b.kl b.kc, .int .u8 b.state, .int .i64 b.ffrom, .int .i64 b.target, .int .i64 b.step, .bool b.paused, .int .i64 b.since, .int .i64 b.rfails] ∧ Below W.heap.size W W' := by
  have hb : Below W.heap.size W (W.alloc o).drew := ((Below.refl _ _).alloc (Nat.le_refl _) o).drew
  have F' := F.next hb
  have hs := F'.s
  subst hn
  refine (serving_keep b (versionOf b) kl hsmall _ (F'.k.mono (by omega)) w.heap.size (by omega) F'.x).mono ?_
  rintro e W' ⟨h1, h2, h3, -, h5⟩
  exact ⟨h1, h2, h3, hb.trans (h5.mono hb.size)⟩

theorem owns_brain {w : World} {base n B : Nat} {v : Value} {xs : List Value} {b : Br} (h : w.ownsRow base 32 8 v n xs) (x : BAt w B b) : v.ownBlock ≠ some B := by
  rcases h.2 with ⟨rfl, -⟩ | ⟨g, cap, cur, rfl, -, hg, -⟩
  · simp [Value.ownBlock]
  · intro he
    simp only [Value.ownBlock, Option.some.injEq] at he
    subst he
    unfold BAt at x
    rw [x] at hg
    injection hg with hg
    injection hg with h1 h2 h3
    exact absurd h2 (by decide)
theorem owns_apart {w w' : World} {B base e k n : Nat} {v : Value} {xs : List Value} (h : w.ownsRow base e k v n xs) (hB : v.ownBlock ≠ some B) (hb : Below B w w') (ho : ∀ j, j ≠ B → w'.heap[j]? = w.heap[j]?) : w'.ownsRow base e k v n xs :=
  h.kept (row := some B) ⟨hb.os, hb.tape, hb.output, hb.size, fun j _ hj => ho j (fun e => hj (by rw [e]))⟩ (.inr hB)

/-- Version, called where the walk stands, in a world that is drawn. -/
theorem version_fp (b : Br) (k : Kp) (ms : List Int) (is : List It) (kl : List Kp) (w W : World) (F : FP b k ms is kl w W) (n : Nat) :
    Calls Try.prog 11 #[.agg #[.int .i64 b.epoch, .int .i64 b.seq, .bool b.set, .int .i64 b.desired, .int .i64 b.minh, .int .i64 b.surplus, .int .i64 b.pool, .int .i64 b.hookIn, .int .i64 b.hookOut, .int .i64 b.warmup, .int .i64 b.drain, .int .i64 b.reap, .int .i64 b.timeout, .int .i64 b.fails, .int .i64 b.delay, .int .i64 b.version, .bool b.skip, .slice b.ma b.ml b.mc, .slice b.ia b.il b.ic, .slice b.ka b.kl b.kc, .int .u8 b.state, .int .i64 b.ffrom, .int .i64 b.target, .int .i64 b.step, .bool b.paused, .int .i64 b.since, .int .i64 b.rfails]] (W.drewN n) fun e w' => e = .returned (.int .i64 (versionOf b)) ∧ Loads w' (.pointer (some ⟨w.heap.size, 0, none⟩)) ∧ rowOf w' (.pointer (some ⟨w.heap.size, 0, none⟩)) = #[.int .i64 b.epoch, .int .i64 b.seq, .bool b.set, .int .i64 b.desired, .int .i64 b.minh, .int .i64 b.surplus, .int .i64 b.pool, .int .i64 b.hookIn, .int .i64 b.hookOut, .int .i64 b.warmup, .int .i64 b.drain, .int .i64 b.reap, .int .i64 b.timeout, .int .i64 b.fails, .int .i64 b.delay, .int .i64 b.version, .bool b.skip, .slice b.ma b.ml b.mc, .slice b.ia b.il b.ic, .slice b.ka b.kl b.kc, .int .u8 b.state, .int .i64 b.ffrom, .int .i64 b.target, .int .i64 b.step, .bool b.paused, .int .i64 b.since, .int .i64 b.rfails] ∧ w'.cell? ⟨w.heap.size + 1, 2, none⟩ = some (.int .i64 k.version) ∧ w'.cell? ⟨w.heap.size + 1, 4, none⟩ = some (.int .u8 k.phase) ∧ w'.cell? ⟨w.heap.size, 3, none⟩ = some (.int .i64 b.desired) ∧ w'.cell? ⟨w.heap.size, 19, none⟩ = some (.slice b.ka b.kl b.kc) ∧ Below W.heap.size W w' := by
  refine (version11 b _).mono ?_
  rintro e w' ⟨rfl, rfl⟩
  have hb : Below W.heap.size W ((W.drewN n).alloc (.cells #[.int .i64 b.epoch, .int .i64 b.seq, .bool b.set, .int .i64 b.desired, .int .i64 b.minh, .int .i64 b.surplus, .int .i64 b.pool, .int .i64 b.hookIn, .int .i64 b.hookOut, .int .i64 b.warmup, .int .i64 b.drain, .int .i64 b.reap, .int .i64 b.timeout, .int .i64 b.fails, .int .i64 b.delay, .int .i64 b.version, .bool b.skip, .slice b.ma b.ml b.mc, .slice b.ia b.il b.ic, .slice b.ka b.kl b.kc, .int .u8 b.state, .int .i64 b.ffrom, .int .i64 b.target, .int .i64 b.step, .bool b.paused, .int .i64 b.since, .int .i64 b.rfails] 30)) := (below_drewN (Below.refl _ _) n).alloc (by simp) _
  have F' := F.next hb
  exact ⟨rfl, F'.x.loads, F'.x.row, F'.kc.f2, F'.kc.f4, F'.x.f3, F'.x.f19, hb⟩

theorem servs_snoc (kl : List Kp) (k : Kp) : servs (kl ++ [k]) = servs kl ++ (if k.phase == 4 then [k.version] else []) := by
  unfold servs
  rw [List.filter_append, List.map_append]
  congr 1
  cases hp : k.phase == 4 <;> simp only [List.filter_cons, List.filter_nil, hp, if_true] <;> rfl
theorem servB_snoc (b : Br) (kl : List Kp) (k : Kp) : servB b (kl ++ [k]) = servB b kl + (if (k.phase == 4 && k.version == versionOf b) = true then 1 else 0) := by
  unfold servB
  rw [servs_snoc]
  cases h1 : (k.phase == 4) with
  | false => simp
  | true =>
    cases h2 : (k.version == versionOf b) with
    | false =>
      have h2' : k.version ≠ versionOf b := by simpa using h2
      simp only [if_true, countV_miss _ _ _ h2']
      simp
    | true =>
      have h2' : k.version = versionOf b := by simpa using h2
      rw [h2']
      simp only [if_true, countV_hit]
      simp
/-- The plain law of CheckProgress. -/
theorem progress_plain (b : Br) (kl : List Kp) (k : Kp) (p n q : Int) (hd : 0 ≤ b.desired ∧ b.desired ≤ 6) (hp : progB b kl = p) (hn : servB b kl = n) (hq : progB b (kl ++ [k]) = q) :
    0 ≤ p ∧ p ≤ 100 ∧ p ≤ q ∧ q ≤ 100 ∧ 0 ≤ n ∧ n ≤ kl.length ∧ (b.desired ≤ n → p = 100) ∧ (n < b.desired → p ≠ 100) ∧
      ((k.phase == 4 && k.version == versionOf b) = false → q = p) ∧ ((k.phase == 4 && k.version == versionOf b) = true → n < b.desired → q ≠ p) := by
  have hle := servB_le b kl
  have hs := servB_snoc b kl k
  unfold progB at hp hq
  rw [hs] at hq
  rw [hn] at hp hq hle
  generalize b.desired = d at *
  obtain h0 | h0 | h0 | h0 | h0 | h0 | h0 : d = 0 ∨ d = 1 ∨ d = 2 ∨ d = 3 ∨ d = 4 ∨ d = 5 ∨ d = 6 := by omega
  all_goals
    subst h0
    cases hc : (k.phase == 4 && k.version == versionOf b) <;> simp only [hc, if_true, if_false, Bool.false_eq_true] at hq <;> first | rw [if_pos (by decide)] at hp hq | rw [if_neg (by decide)] at hp hq
  all_goals
    subst hp
    subst hq
    refine ⟨?_, ?_, ?_, ?_, ?_, ?_, ?_, ?_, ?_, ?_⟩ <;> intros <;> first | omega | (exfalso; simp_all; done)

def TruePost (w : World) (e : Ending) (w' : World) : Prop := e = .returned (.bool true) ∧ Below w.heap.size w w'

set_option maxRecDepth 100000 in
set_option maxHeartbeats 4000000 in
theorem checkProgress_any (b : Br) (k : Kp) (ms : List Int) (is : List It) (kl : List Kp) (w : World) (hm : IRow w w.heap.size b.ma b.ml ms) (hi : TRow w w.heap.size b.ia b.il is) (hk : KRow w w.heap.size (.slice b.ka b.kl b.kc) kl) :
    Calls Try.prog 3 #[.agg #[.int .i64 b.epoch, .int .i64 b.seq, .bool b.set, .int .i64 b.desired, .int .i64 b.minh, .int .i64 b.surplus, .int .i64 b.pool, .int .i64 b.hookIn, .int .i64 b.hookOut, .int .i64 b.warmup, .int .i64 b.drain, .int .i64 b.reap, .int .i64 b.timeout, .int .i64 b.fails, .int .i64 b.delay, .int .i64 b.version, .bool b.skip, .slice b.ma b.ml b.mc, .slice b.ia b.il b.ic, .slice b.ka b.kl b.kc, .int .u8 b.state, .int .i64 b.ffrom, .int .i64 b.target, .int .i64 b.step, .bool b.paused, .int .i64 b.since, .int .i64 b.rfails], .agg #[.int .i64 k.id, .int .i64 k.token, .int .i64 k.version, .int .i64 k.zone, .int .u8 k.phase, .int .i64 k.since, .bool k.guarded, .bool k.complete]] w (TruePost w) := by
  obtain ⟨W1, hW1⟩ : ∃ W1, w.alloc (.cells #[.int .i64 b.epoch, .int .i64 b.seq, .bool b.set, .int .i64 b.desired, .int .i64 b.minh, .int .i64 b.surplus, .int .i64 b.pool, .int .i64 b.hookIn, .int .i64 b.hookOut, .int .i64 b.warmup, .int .i64 b.drain, .int .i64 b.reap, .int .i64 b.timeout, .int .i64 b.fails, .int .i64 b.delay, .int .i64 b.version, .bool b.skip, .slice b.ma b.ml b.mc, .slice b.ia b.il b.ic, .slice b.ka b.kl b.kc, .int .u8 b.state, .int .i64 b.ffrom, .int .i64 b.target, .int .i64 b.step, .bool b.paused, .int .i64 b.since, .int .i64 b.rfails] 30) = W1 := ⟨_, rfl⟩
  obtain ⟨W2, hW2⟩ : ∃ W2, W1.alloc (.cells #[.int .i64 k.id, .int .i64 k.token, .int .i64 k.version, .int .i64 k.zone, .int .u8 k.phase, .int .i64 k.since, .bool k.guarded, .bool k.complete] 32) = W2 := ⟨_, rfl⟩
  have x1 : BAt W1 w.heap.size b := by rw [← hW1]; exact BAt.new w b
  have n1 : W1.heap.size = w.heap.size + 1 := by rw [← hW1]; simp
  have bw1 : Below w.heap.size w W1 := by rw [← hW1]; exact (Below.refl _ _).alloc (Nat.le_refl _) _
  have b12 : Below W1.heap.size W1 W2 := by rw [← hW2]; exact (Below.refl _ _).alloc (Nat.le_refl _) _
  have n2 : W2.heap.size = w.heap.size + 1 + 1 := by rw [← hW2]; simp [n1]
  have kc : KCells W2 W1.heap.size 0 k := by
    have h : W2.heap[W1.heap.size]? = some (.cells #[.int .i64 k.id, .int .i64 k.token, .int .i64 k.version, .int .i64 k.zone, .int .u8 k.phase, .int .i64 k.since, .bool k.guarded, .bool k.complete] 32 (0, 0)) := by rw [← hW2]; unfold World.alloc; simp
    exact ⟨cell_of_row _ _ _ _ _ _ h, cell_of_row _ _ _ _ _ _ h, cell_of_row _ _ _ _ _ _ h, cell_of_row _ _ _ _ _ _ h, cell_of_row _ _ _ _ _ _ h, cell_of_row _ _ _ _ _ _ h, cell_of_row _ _ _ _ _ _ h, cell_of_row _ _ _ _ _ _ h⟩
  rw [n1] at kc
  have bw2 : Below w.heap.size w W2 := bw1.trans (b12.mono (by omega))
  have F : FP b k ms is kl w W2 := ⟨x1.below b12 (by omega), kc, hm.below bw2 (Nat.le_refl _), hi.below bw2 (Nat.le_refl _), hk.below bw2 (Nat.le_refl _), by omega, bw2⟩
  obtain ⟨l1, l2⟩ := F.x.facts
  have F2 := Lib.hid F
  clear x1 bw1 b12 kc bw2 F hm hi hk n2
  go_enter Try.func3, Try.ntmps3
  cases hg : greatB b with
  | true =>
    have HG := Lib.hid hg
    clear hg
    go_wp2_with fail
    refine (great_c b true HG.out _).mono ?_
    rintro e W3 ⟨rfl, hb⟩
    clear l1 l2
    go_wp2_with fail
    refine (wakes_any _).mono ?_
    rintro e W4 ⟨rfl, hb4⟩
    go_wp2
    go_ret
    have hF := F2.out.next hb
    exact ⟨rfl, hF.b.trans (hb4.mono (by have := hF.s; omega))⟩
  | false =>
  obtain ⟨gi, gk, gm⟩ := great_no hg
  have HG := Lib.hid hg
  clear hg
  go_wp2_with fail
  refine (great_c b false HG.out _).mono ?_
  rintro e W3 ⟨rfl, hb⟩
  have F3 := Lib.hid (F2.out.next hb)
  clear l1 l2 hb F2 HG
  obtain ⟨l1, l2⟩ := F3.out.x.facts
  go_wp2_with fail
  refine (right_any b gi gk ms is kl W3 (F3.out.m.mono (by have := F3.out.s; omega)) (F3.out.i.mono (by have := F3.out.s; omega)) (F3.out.k.mono (by have := F3.out.s; omega))).mono ?_
  rintro e W4 ⟨r, rfl, hr, hb⟩
  have HR := Lib.hid hr
  have F4 := Lib.hid (F3.out.next hb)
  clear l1 l2 hb F3 hr
  cases r with
  | false =>
    go_wp2_with fail
    refine (wakes_any _).mono ?_
    rintro e W5 ⟨rfl, hb5⟩
    go_wp2
    go_ret
    exact ⟨rfl, F4.out.b.trans (hb5.mono (by have := F4.out.s; omega))⟩
  | true =>
  have f2 := F4.out.x.f2
  cases hs : b.set with
  | false =>
    rw [hs] at f2
    go_wp2_with fail
    refine (wakes_any _).mono ?_
    rintro e W5 ⟨rfl, hb5⟩
    go_wp2
    go_ret
    exact ⟨rfl, F4.out.b.trans (hb5.mono (by have := F4.out.s; omega))⟩
  | true =>
  rw [hs] at f2
  have FIT := Lib.hid ((HR.out rfl).1 hs)
  clear hs HR
  obtain ⟨l1, l2⟩ := F4.out.x.facts
  obtain ⟨p, hp⟩ : ∃ p, progB b kl = p := ⟨_, rfl⟩
  obtain ⟨n, hn⟩ : ∃ n, servB b kl = n := ⟨_, rfl⟩
  have hsm : kl.length ≤ 40 := by have := F4.out.k.open.1; omega
  have HP := Lib.hid hp
  have HN := Lib.hid hn
  have HSM := Lib.hid hsm
  clear hp hn hsm
  go_wp2_with fail
  refine (progress_c b kl (by have := HSM.out; omega) p HP.out W4 (F4.out.k.mono (by have := F4.out.s; omega))).mono ?_
  rintro e W5 ⟨rfl, hb⟩
  have F5 := Lib.hid (F4.out.next hb)
  clear l1 l2 hb F4 f2
  obtain ⟨l1, l2⟩ := F5.out.x.facts
  have HS := fun o => Lib.hid (serving_fp b k ms is kl (by have := HSM.out; omega) n HN.out w W5 F5.out o)
  have l3 : ∀ o, Loads (W5.alloc o) (.pointer (some ⟨w.heap.size, 0, none⟩)) := fun o => (F5.out.next ((Below.refl _ _).alloc (Nat.le_refl _) o)).x.loads
  have l4 : ∀ o, rowOf (W5.alloc o) (.pointer (some ⟨w.heap.size, 0, none⟩)) = #[.int .i64 b.epoch, .int .i64 b.seq, .bool b.set, .int .i64 b.desired, .int .i64 b.minh, .int .i64 b.surplus, .int .i64 b.pool, .int .i64 b.hookIn, .int .i64 b.hookOut, .int .i64 b.warmup, .int .i64 b.drain, .int .i64 b.reap, .int .i64 b.timeout, .int .i64 b.fails, .int .i64 b.delay, .int .i64 b.version, .bool b.skip, .slice b.ma b.ml b.mc, .slice b.ia b.il b.ic, .slice b.ka b.kl b.kc, .int .u8 b.state, .int .i64 b.ffrom, .int .i64 b.target, .int .i64 b.step, .bool b.paused, .int .i64 b.since, .int .i64 b.rfails] := fun o => (F5.out.next ((Below.refl _ _).alloc (Nat.le_refl _) o)).x.row
  go_wp2_with fail
  go_region_held3 (fun w' => Loads w' (.pointer (some ⟨w.heap.size, 0, none⟩)) ∧ rowOf w' (.pointer (some ⟨w.heap.size, 0, none⟩)) = #[.int .i64 b.epoch, .int .i64 b.seq, .bool b.set, .int .i64 b.desired, .int .i64 b.minh, .int .i64 b.surplus, .int .i64 b.pool, .int .i64 b.hookIn, .int .i64 b.hookOut, .int .i64 b.warmup, .int .i64 b.drain, .int .i64 b.reap, .int .i64 b.timeout, .int .i64 b.fails, .int .i64 b.delay, .int .i64 b.version, .bool b.skip, .slice b.ma b.ml b.mc, .slice b.ia b.il b.ic, .slice b.ka b.kl b.kc, .int .u8 b.state, .int .i64 b.ffrom, .int .i64 b.target, .int .i64 b.step, .bool b.paused, .int .i64 b.since, .int .i64 b.rfails]) (first | exact ⟨l1, l2⟩ | exact ⟨l3 _, l4 _⟩ | exact ⟨hc1, hc2⟩) (first | (go_at_call 11; refine (version11 b _).mono ?_; rintro e w' ⟨rfl, rfl⟩) | (go_at_call 10; refine (HS _).out.mono ?_; rintro e w' ⟨rfl, hc1, hc2, hb3⟩))
  have F6 := Lib.hid (F5.out.next hb3)
  clear l1 l2 l3 l4 hb3 HS
  rename World => W6
  go_wp2_with fail
  refine (own_any b ms is kl W6 gm gi gk (F6.out.m.mono (by have := F6.out.s; omega)).row (F6.out.i.mono (by have := F6.out.s; omega)).row (F6.out.k.mono (by have := F6.out.s; omega)).row).mono ?_
  rintro e W7 ⟨a1, c1, a2, c2, a3, c3, rfl, -, -, ok, hb7⟩
  obtain ⟨W8, s1, s2, x8, b8, n8⟩ := new_store W7 (b.own a1 c1 a2 c2 a3 c3) W7.heap.size rfl
  unfold zB Br.own at s1 s2
  dsimp only at s1 s2
  have F8 := Lib.hid (F6.out.next (hb7.trans (b8.mono hb7.size)))
  have ok8 := owns_below ok b8 (Nat.le_refl _)
  obtain ⟨W9, hW9⟩ : ∃ W9, W8.alloc (.cells #[.int .i64 k.id, .int .i64 k.token, .int .i64 k.version, .int .i64 k.zone, .int .u8 k.phase, .int .i64 k.since, .bool k.guarded, .bool k.complete] 32) = W9 := ⟨_, rfl⟩
  have b89 : Below W8.heap.size W8 W9 := by rw [← hW9]; exact (Below.refl _ _).alloc (Nat.le_refl _) _
  have n9 : W9.heap.size = W8.heap.size + 1 := by rw [← hW9]; simp
  have ok9 := owns_below ok8 b89 (Nat.le_refl _)
  have src : Row W9 W9.heap.size (some ⟨W8.heap.size, 0, none⟩) 1 k.vals 8 := by
    have h : W9.heap[W8.heap.size]? = some (.cells #[.int .i64 k.id, .int .i64 k.token, .int .i64 k.version, .int .i64 k.zone, .int .u8 k.phase, .int .i64 k.since, .bool k.guarded, .bool k.complete] 32 (0, 0)) := by rw [← hW9]; unfold World.alloc; simp
    refine ⟨rfl, .inr ⟨W8.heap.size, 0, rfl, by omega, fun j u hj => ?_⟩⟩
    rw [Nat.zero_add, cell_of_row _ _ j _ _ _ h]
    simpa [Kp.vals] using hj
  have d19 : W8.cell? ⟨W7.heap.size, 19, none⟩ = some (.slice a3 b.kl c3) := x8.f19
  have q0 : W8.cell? ⟨w.heap.size + 1, 0, none⟩ = some (.int .i64 k.id) := F8.out.kc.f0
  have q1 : W8.cell? ⟨w.heap.size + 1, 1, none⟩ = some (.int .i64 k.token) := F8.out.kc.f1
  have q2 : W8.cell? ⟨w.heap.size + 1, 2, none⟩ = some (.int .i64 k.version) := F8.out.kc.f2
  have q3 : W8.cell? ⟨w.heap.size + 1, 3, none⟩ = some (.int .i64 k.zone) := F8.out.kc.f3
  have q4 : W8.cell? ⟨w.heap.size + 1, 4, none⟩ = some (.int .u8 k.phase) := F8.out.kc.f4
  have q5 : W8.cell? ⟨w.heap.size + 1, 5, none⟩ = some (.int .i64 k.since) := F8.out.kc.f5
  have q6 : W8.cell? ⟨w.heap.size + 1, 6, none⟩ = some (.bool k.guarded) := F8.out.kc.f6
  have q7 : W8.cell? ⟨w.heap.size + 1, 7, none⟩ = some (.bool k.complete) := F8.out.kc.f7
  have X9 := Lib.hid (x8.below b89 x8.lt)
  have OK := Lib.hid ok
  have OK9 := Lib.hid ok9
  have SRC := Lib.hid src
  have BB9 := Lib.hid ((hb7.trans (b8.mono hb7.size)).trans (b89.mono (by have := hb7.size; omega)))
  have S9 := Lib.hid (show W6.heap.size ≤ W7.heap.size ∧ W7.heap.size < W9.heap.size ∧ W6.heap.size ≤ W9.heap.size from ⟨hb7.size, by omega, by have := hb7.size; omega⟩)
  clear ok hb7 x8 b8 n8 ok8 b89 n9 ok9 src
  obtain ⟨i32, hi32, hz0, hz1, hz2⟩ := info_parts info32
  go_wp2_with (first
    | (at_builtin; refine wpList_append_src rfl _ _ 26 rfl W6.heap.size 32 i32 (.agg #[.int .i64 0, .int .i64 0, .int .i64 0, .int .i64 0, .int .u8 0, .int .i64 0, .bool false, .bool false]) 8 56 Try.underlying26 hi32 hz0 hz1 hz2 rfl (by decide) _ b.kl (kvals kl) rfl OK9.out W9.heap.size _ 1 1 k.vals rfl SRC.out (fun u hu => kvals_one [k] u (by simpa [kvals] using hu)) (by unfold maxLen; omega) (by omega) (by have := S9.out; omega) ?_; intro v4 V4 ho4 hg4
       obtain ⟨a4, c4, rfl, -⟩ := Row.of_own ho4
       have x10 := (hg4.block W7.heap.size S9.out.2.1 (fun he => by have := (OK.out.lt _ he.symm).2; omega)).trans X9.out
       have bV := (Below.refl W6.heap.size W9).grown hg4 S9.out.2.2 (fun j hj => (OK9.out.lt j hj).1)
       have x10' : BAt V4 W7.heap.size (b.own a1 c1 a2 c2 a3 c3) := x10
       have e19 : V4.cell? ⟨W7.heap.size, 19, none⟩ = some (.slice a3 b.kl c3) := x10'.f19
       have g19 := x10'.frozen 19
       have u4 := x10'.setKept a4 (b.kl + 1) c4
       obtain ⟨U4, hU4, bu4, su4, oth4⟩ := set_facts (V := V4) (B := W7.heap.size) 19 (.slice a4 (b.kl + 1) c4)
       rw [hU4] at u4
       have ok4 := owns_apart ho4 (owns_brain ho4 x10') (bu4 _ (Nat.le_refl _)) oth4
       have F10 := Lib.hid (F6.out.next ((BB9.out.trans bV).trans (bu4 _ S9.out.1)))
       have K10 : Hid (KRow U4 U4.heap.size (.slice a4 (b.kl + 1) c4) (kl ++ [k])) := Lib.hid (Row.krow c4 (by have := F6.out.k.open.1; simp; omega) (by
         have e : kvals (kl ++ [k]) = kvals kl ++ k.vals := by simp [kvals]
         rw [e]; exact row_own ok4))
       have U := Lib.hid u4
       obtain ⟨l1, l2⟩ : Loads U4 (.pointer (some ⟨W7.heap.size, 0, none⟩)) ∧ rowOf U4 (.pointer (some ⟨W7.heap.size, 0, none⟩)) = #[.int .i64 b.epoch, .int .i64 b.seq, .bool b.set, .int .i64 b.desired, .int .i64 b.minh, .int .i64 b.surplus, .int .i64 b.pool, .int .i64 b.hookIn, .int .i64 b.hookOut, .int .i64 b.warmup, .int .i64 b.drain, .int .i64 b.reap, .int .i64 b.timeout, .int .i64 b.fails, .int .i64 b.delay, .int .i64 b.version, .bool b.skip, .slice a1 b.ml c1, .slice a2 b.il c2, .slice a4 (b.kl + 1) c4, .int .u8 b.state, .int .i64 b.ffrom, .int .i64 b.target, .int .i64 b.step, .bool b.paused, .int .i64 b.since, .int .i64 b.rfails] := u4.facts
       clear ho4 hg4 x10 bV x10' u4 bu4 su4 oth4 ok4))
  obtain ⟨q, hq⟩ : ∃ q, progB b (kl ++ [k]) = q := ⟨_, rfl⟩
  have HQ := Lib.hid hq
  clear hq
  refine (progress_c { b.own a1 c1 a2 c2 a3 c3 with ka := a4, kl := b.kl + 1, kc := c4 } (kl ++ [k]) (by have := HSM.out; simp; omega) q HQ.out U4 K10.out).mono ?_
  rintro e W11 ⟨rfl, hb⟩
  have F11 := Lib.hid (F10.out.next hb)
  obtain ⟨p0, p1, pq, pu, n0, nl, pA, pB, cF, cT⟩ := progress_plain b kl k p n q FIT.out.1 HP.out HN.out HQ.out
  have d3 : decide (n ≤ (b.kl : Int)) = true := by have := F11.out.k.open.1; simp; omega
  have d4 : decide (0 ≤ n) = true := by simp; omega
  clear l1 l2 hb q0 q1 q2 q3 q4 q5 q6 q7 d19 e19 g19 s1 s2 hW1 hW2 hW9 hU4
  obtain ⟨l1, l2⟩ := F11.out.x.facts
  have f3 := F11.out.x.f3
  have f19 := F11.out.x.f19
  have q2 : W11.cell? ⟨w.heap.size + 1, 2, none⟩ = some (.int .i64 k.version) := F11.out.kc.f2
  have q4 : W11.cell? ⟨w.heap.size + 1, 4, none⟩ = some (.int .u8 k.phase) := F11.out.kc.f4
  have HV := fun n => Lib.hid (version_fp b k ms is kl w W11 F11.out n)
  by_cases hdn : b.desired ≤ n
  · obtain rfl : p = 100 := pA hdn
    obtain rfl : q = 100 := by omega
    have d1 : decide (b.desired ≤ n) = true := by simpa using hdn
    have d2 : decide (n < b.desired) = false := by simpa using hdn
    clear hdn
    cases hph : (k.phase == 4) with
    | false =>
      clear p0 p1 pq pu n0 nl pA pB cF cT
      clear l1 l2 q2 HV
      go_wp2_with fail
      go_quiet (fail)
      go_wp2_with fail
      refine (wakes_true _).mono ?_
      rintro e W14 ⟨rfl, hb14⟩
      go_wp2
      go_ret
      exact ⟨rfl, (below_drewN F11.out.b _).trans (hb14.mono (by have := F11.out.s; simp; omega))⟩
    | true =>
      cases hv : (k.version == versionOf b) with
      | false =>
        clear p0 p1 pq pu n0 nl pA pB cF cT
        go_wp2_with fail
        go_region_held3 (fun w' => Loads w' (.pointer (some ⟨w.heap.size, 0, none⟩)) ∧ rowOf w' (.pointer (some ⟨w.heap.size, 0, none⟩)) = #[.int .i64 b.epoch, .int .i64 b.seq, .bool b.set, .int .i64 b.desired, .int .i64 b.minh, .int .i64 b.surplus, .int .i64 b.pool, .int .i64 b.hookIn, .int .i64 b.hookOut, .int .i64 b.warmup, .int .i64 b.drain, .int .i64 b.reap, .int .i64 b.timeout, .int .i64 b.fails, .int .i64 b.delay, .int .i64 b.version, .bool b.skip, .slice b.ma b.ml b.mc, .slice b.ia b.il b.ic, .slice b.ka b.kl b.kc, .int .u8 b.state, .int .i64 b.ffrom, .int .i64 b.target, .int .i64 b.step, .bool b.paused, .int .i64 b.since, .int .i64 b.rfails] ∧ w'.cell? ⟨w.heap.size + 1, 2, none⟩ = some (.int .i64 k.version) ∧ w'.cell? ⟨w.heap.size + 1, 4, none⟩ = some (.int .u8 k.phase) ∧ w'.cell? ⟨w.heap.size, 3, none⟩ = some (.int .i64 b.desired) ∧ w'.cell? ⟨w.heap.size, 19, none⟩ = some (.slice b.ka b.kl b.kc)) (first | exact ⟨l1, l2, q2, q4, f3, f19⟩ | exact ⟨hc1, hc2, hc3, hc4, hc5, hc6⟩) (first | (go_at_call 11; refine (HV _).out.mono ?_; rintro e w' ⟨rfl, hc1, hc2, hc3, hc4, hc5, hc6, hb3⟩))
        clear l1 l2 q2 q4 f3 f19 hc1 hc2 hc3 hc4
        go_wp2_with fail
        refine (wakes_true _).mono ?_
        rintro e W14 ⟨rfl, hb14⟩
        go_wp2
        go_ret
        exact ⟨rfl, (F11.out.b.trans (hb3.mono (by have := F11.out.s; omega))).trans (hb14.mono (by have := F11.out.s; have := hb3.size; omega))⟩
      | true =>
        clear p0 p1 pq pu n0 nl pA pB cF cT
        go_wp2_with fail
        go_region_held3 (fun w' => Loads w' (.pointer (some ⟨w.heap.size, 0, none⟩)) ∧ rowOf w' (.pointer (some ⟨w.heap.size, 0, none⟩)) = #[.int .i64 b.epoch, .int .i64 b.seq, .bool b.set, .int .i64 b.desired, .int .i64 b.minh, .int .i64 b.surplus, .int .i64 b.pool, .int .i64 b.hookIn, .int .i64 b.hookOut, .int .i64 b.warmup, .int .i64 b.drain, .int .i64 b.reap, .int .i64 b.timeout, .int .i64 b.fails, .int .i64 b.delay, .int .i64 b.version, .bool b.skip, .slice b.ma b.ml b.mc, .slice b.ia b.il b.ic, .slice b.ka b.kl b.kc, .int .u8 b.state, .int .i64 b.ffrom, .int .i64 b.target, .int .i64 b.step, .bool b.paused, .int .i64 b.since, .int .i64 b.rfails] ∧ w'.cell? ⟨w.heap.size + 1, 2, none⟩ = some (.int .i64 k.version) ∧ w'.cell? ⟨w.heap.size + 1, 4, none⟩ = some (.int .u8 k.phase) ∧ w'.cell? ⟨w.heap.size, 3, none⟩ = some (.int .i64 b.desired) ∧ w'.cell? ⟨w.heap.size, 19, none⟩ = some (.slice b.ka b.kl b.kc)) (first | exact ⟨l1, l2, q2, q4, f3, f19⟩ | exact ⟨hc1, hc2, hc3, hc4, hc5, hc6⟩) (first | (go_at_call 11; refine (HV _).out.mono ?_; rintro e w' ⟨rfl, hc1, hc2, hc3, hc4, hc5, hc6, hb3⟩))
        clear l1 l2 q2 q4 f3 f19 hc1 hc2 hc3 hc4
        go_wp2_with fail
        refine (wakes_true _).mono ?_
        rintro e W14 ⟨rfl, hb14⟩
        go_wp2
        go_ret
        exact ⟨rfl, (F11.out.b.trans (hb3.mono (by have := F11.out.s; omega))).trans (hb14.mono (by have := F11.out.s; have := hb3.size; omega))⟩
  · have d1 : decide (b.desired ≤ n) = false := by simpa using hdn
    have d2 : decide (n < b.desired) = true := by simp; omega
    have e1 : (p == 100) = false := by simpa using pB (by omega)
    have e3 : decide (p < 0) = false := by simp; omega
    have e4 : decide (100 < p) = false := by simp; omega
    cases hph : (k.phase == 4) with
    | false =>
      obtain rfl : q = p := cF (by simp [hph])
      clear hdn
      clear p0 p1 pq pu n0 nl pA pB cF cT
      clear l1 l2 q2 HV
      go_wp2_with fail
      go_quiet (fail)
      go_wp2_with fail
      refine (wakes_true _).mono ?_
      rintro e W14 ⟨rfl, hb14⟩
      go_wp2
      go_ret
      exact ⟨rfl, (below_drewN F11.out.b _).trans (hb14.mono (by have := F11.out.s; simp; omega))⟩
    | true =>
      cases hv : (k.version == versionOf b) with
      | false =>
        obtain rfl : q = p := cF (by simp [hph, hv])
        clear hdn
        clear p0 p1 pq pu n0 nl pA pB cF cT
        go_wp2_with fail
        go_region_held3 (fun w' => Loads w' (.pointer (some ⟨w.heap.size, 0, none⟩)) ∧ rowOf w' (.pointer (some ⟨w.heap.size, 0, none⟩)) = #[.int .i64 b.epoch, .int .i64 b.seq, .bool b.set, .int .i64 b.desired, .int .i64 b.minh, .int .i64 b.surplus, .int .i64 b.pool, .int .i64 b.hookIn, .int .i64 b.hookOut, .int .i64 b.warmup, .int .i64 b.drain, .int .i64 b.reap, .int .i64 b.timeout, .int .i64 b.fails, .int .i64 b.delay, .int .i64 b.version, .bool b.skip, .slice b.ma b.ml b.mc, .slice b.ia b.il b.ic, .slice b.ka b.kl b.kc, .int .u8 b.state, .int .i64 b.ffrom, .int .i64 b.target, .int .i64 b.step, .bool b.paused, .int .i64 b.since, .int .i64 b.rfails] ∧ w'.cell? ⟨w.heap.size + 1, 2, none⟩ = some (.int .i64 k.version) ∧ w'.cell? ⟨w.heap.size + 1, 4, none⟩ = some (.int .u8 k.phase) ∧ w'.cell? ⟨w.heap.size, 3, none⟩ = some (.int .i64 b.desired) ∧ w'.cell? ⟨w.heap.size, 19, none⟩ = some (.slice b.ka b.kl b.kc)) (first | exact ⟨l1, l2, q2, q4, f3, f19⟩ | exact ⟨hc1, hc2, hc3, hc4, hc5, hc6⟩) (first | (go_at_call 11; refine (HV _).out.mono ?_; rintro e w' ⟨rfl, hc1, hc2, hc3, hc4, hc5, hc6, hb3⟩))
        clear l1 l2 q2 q4 f3 f19 hc1 hc2 hc3 hc4
        go_wp2_with fail
        refine (wakes_true _).mono ?_
        rintro e W14 ⟨rfl, hb14⟩
        go_wp2
        go_ret
        exact ⟨rfl, (F11.out.b.trans (hb3.mono (by have := F11.out.s; omega))).trans (hb14.mono (by have := F11.out.s; have := hb3.size; omega))⟩
      | true =>
        have e5 : decide (q < p) = false := by simp; omega
        have e6 : (q == p) = false := by simpa using cT (by simp [hph, hv]) (by omega)
        clear hdn
        clear p0 p1 pq pu n0 nl pA pB cF cT
        go_wp2_with fail
        go_region_held3 (fun w' => Loads w' (.pointer (some ⟨w.heap.size, 0, none⟩)) ∧ rowOf w' (.pointer (some ⟨w.heap.size, 0, none⟩)) = #[.int .i64 b.epoch, .int .i64 b.seq, .bool b.set, .int .i64 b.desired, .int .i64 b.minh, .int .i64 b.surplus, .int .i64 b.pool, .int .i64 b.hookIn, .int .i64 b.hookOut, .int .i64 b.warmup, .int .i64 b.drain, .int .i64 b.reap, .int .i64 b.timeout, .int .i64 b.fails, .int .i64 b.delay, .int .i64 b.version, .bool b.skip, .slice b.ma b.ml b.mc, .slice b.ia b.il b.ic, .slice b.ka b.kl b.kc, .int .u8 b.state, .int .i64 b.ffrom, .int .i64 b.target, .int .i64 b.step, .bool b.paused, .int .i64 b.since, .int .i64 b.rfails] ∧ w'.cell? ⟨w.heap.size + 1, 2, none⟩ = some (.int .i64 k.version) ∧ w'.cell? ⟨w.heap.size + 1, 4, none⟩ = some (.int .u8 k.phase) ∧ w'.cell? ⟨w.heap.size, 3, none⟩ = some (.int .i64 b.desired) ∧ w'.cell? ⟨w.heap.size, 19, none⟩ = some (.slice b.ka b.kl b.kc)) (first | exact ⟨l1, l2, q2, q4, f3, f19⟩ | exact ⟨hc1, hc2, hc3, hc4, hc5, hc6⟩) (first | (go_at_call 11; refine (HV _).out.mono ?_; rintro e w' ⟨rfl, hc1, hc2, hc3, hc4, hc5, hc6, hb3⟩))
        clear l1 l2 q2 q4 f3 f19 hc1 hc2 hc3 hc4
        go_wp2_with fail
        refine (wakes_true _).mono ?_
        rintro e W14 ⟨rfl, hb14⟩
        go_wp2
        go_ret
        exact ⟨rfl, (F11.out.b.trans (hb3.mono (by have := F11.out.s; omega))).trans (hb14.mono (by have := F11.out.s; have := hb3.size; omega))⟩
end Go.Proofs.Ytpneohekghpkbaa
