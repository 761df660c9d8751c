/- Serving's closure, the iterator over the versions of those that serve, and Serving. -/
import Derived.RangeFuncNested
import Derived.RangeFuncBound
import Derived.RangeFuncCalls
import Derived.RangeFuncLeaves
import Derived.RangeFuncFrom
import Derived.RangeFuncBox
import Derived.Shelf.Abstract
import Derived.Shelf.RegionOpen
import Derived.OwnWalkIn
import Derived.TacticsInMore
import Derived.LoopNIn
import Derived.LoopIn
import Derived.Test.YtpneohekghpkbaaA
namespace Go.Proofs.Ytpneohekghpkbaa
open Go.RowKit Go.Shelf
attribute [local go_sem] Oper.semAt_some

theorem cell_of_box_l {W : World} {B : Nat} {v : Value} {t : TypeId} (h : W.heap[B]? = some (.cells #[v] t (0, 0))) : W.cell? ⟨B, 0, none⟩ = some v ∧ W.frozen? ⟨B, 0, none⟩ = false := by
  constructor <;> simp [World.cell?, World.frozen?, h]
theorem cell_new_l (W : World) (v : Value) (t : TypeId) : (W.alloc (.cells #[v] t)).cell? ⟨W.heap.size, 0, none⟩ = some v ∧ (W.alloc (.cells #[v] t)).frozen? ⟨W.heap.size, 0, none⟩ = false :=
  cell_of_box_l (World.alloc_heap_new W _)
theorem cell_alloc_l {W : World} {a : Addr} {v : Value} (o : Obj) (h : W.cell? a = some v) : (W.alloc o).cell? a = some v := cell_kept h (World.grownBy_alloc W o none) (fun r e => by cases e)
theorem frozen_alloc_l {W : World} {a : Addr} {v : Value} (o : Obj) (h : W.cell? a = some v) (hf : W.frozen? a = false) : (W.alloc o).frozen? a = false := (frozen_kept h (World.grownBy_alloc W o none) (fun r e => by cases e)).trans hf

/-- An instance. -/
structure Kp where
  id : Int
  token : Int
  version : Int
  zone : Int
  phase : Int
  since : Int
  guarded : Bool
  complete : Bool
def Kp.vals (k : Kp) : List Value := [.int .i64 k.id, .int .i64 k.token, .int .i64 k.version, .int .i64 k.zone, .int .u8 k.phase, .int .i64 k.since, .bool k.guarded, .bool k.complete]

/-- Eight cells that hold an instance. -/
structure KCells (w : World) (b o : Nat) (k : Kp) : Prop where
  f0 : w.cell? ⟨b, o, none⟩ = some (.int .i64 k.id)
  f1 : w.cell? ⟨b, o + 1, none⟩ = some (.int .i64 k.token)
  f2 : w.cell? ⟨b, o + 2, none⟩ = some (.int .i64 k.version)
  f3 : w.cell? ⟨b, o + 3, none⟩ = some (.int .i64 k.zone)
  f4 : w.cell? ⟨b, o + 4, none⟩ = some (.int .u8 k.phase)
  f5 : w.cell? ⟨b, o + 5, none⟩ = some (.int .i64 k.since)
  f6 : w.cell? ⟨b, o + 6, none⟩ = some (.bool k.guarded)
  f7 : w.cell? ⟨b, o + 7, none⟩ = some (.bool k.complete)
theorem KCells.below {w w' : World} {N b o : Nat} {k : Kp} (h : KCells w b o k) (hb : Below N w w') (hB : b < N) : KCells w' b o k :=
  ⟨(hb.cell (p := ⟨b, o, none⟩) hB).trans h.f0, (hb.cell (p := ⟨b, o + 1, none⟩) hB).trans h.f1, (hb.cell (p := ⟨b, o + 2, none⟩) hB).trans h.f2, (hb.cell (p := ⟨b, o + 3, none⟩) hB).trans h.f3,
   (hb.cell (p := ⟨b, o + 4, none⟩) hB).trans h.f4, (hb.cell (p := ⟨b, o + 5, none⟩) hB).trans h.f5, (hb.cell (p := ⟨b, o + 6, none⟩) hB).trans h.f6, (hb.cell (p := ⟨b, o + 7, none⟩) hB).trans h.f7⟩

/-- A slice value that holds these instances, below block B. -/
def KRow (w : World) (B : Nat) (v : Value) (l : List Kp) : Prop :=
  (∃ a cap, v = .slice a 0 cap ∧ l = []) ∨ ∃ b off cap, v = .slice (some ⟨b, off, none⟩) l.length cap ∧ b < B ∧ ∀ i (h : i < l.length), KCells w b (off + i * 8) l[i]
theorem KRow.below {w w' : World} {N B : Nat} {v : Value} {l : List Kp} (h : KRow w B v l) (hb : Below N w w') (hB : B ≤ N) : KRow w' B v l := by
  rcases h with h | ⟨b, off, cap, hv, hlt, hc⟩
  · exact .inl h
  · exact .inr ⟨b, off, cap, hv, hlt, fun i hi => (hc i hi).below hb (by omega)⟩
theorem KRow.mono {w : World} {B B' : Nat} {v : Value} {l : List Kp} (h : KRow w B v l) (hB : B ≤ B') : KRow w B' v l := by
  rcases h with h | ⟨b, off, cap, hv, hlt, hc⟩
  · exact .inl h
  · exact .inr ⟨b, off, cap, hv, by omega, hc⟩

/-- The versions of those that serve. -/
def servs (l : List Kp) : List Int := (l.filter fun k => k.phase == 4).map (·.version)
theorem servs_take_succ (l : List Kp) (k : Nat) (h : k < l.length) : servs (l.take (k + 1)) = servs (l.take k) ++ (if l[k].phase == 4 then [l[k].version] else []) := by
  unfold servs
  rw [List.take_succ_eq_append_getElem h, List.filter_append, List.map_append]
  congr 1
  cases hp : l[k].phase == 4 <;> simp only [List.filter_cons, List.filter_nil, hp, if_true] <;> rfl
theorem servs_len (l : List Kp) : (servs l).length ≤ l.length := by
  unfold servs
  rw [List.length_map]
  exact List.length_filter_le _ _

set_option maxRecDepth 100000 in
set_option maxHeartbeats 2000000 in
/-- The iterator's closure. -/
theorem serving1_in (F : Fence) (n : Nat) (h32 : F.fn 32) (hro : F.round = none) (hn : 1 ≤ n) (l Bs n₀ bb off cap : Nat) (kl : List Kp) (hsmall : kl.length ≤ 100) (hbb : bb < n₀) (J Jx : List Int → World → Prop) (hJ : ∀ s A o, J s A → J s (A.alloc o))
    (hY : ∀ pre x W, J pre W → pre.length < kl.length + 1 → YieldAt F (n - 1) Try.prog l #[.int .i64 x] W fun e W' =>
      (e = .returned (.bool true) ∧ J (pre ++ [x]) W' ∧ Below n₀ W W') ∨ (e = .returned (.bool false) ∧ Jx (pre ++ [x]) W'))
    (W : World) (hn0 : n₀ ≤ W.heap.size) (hBs : W.cell? ⟨Bs, 19, none⟩ = some (.slice (some ⟨bb, off, none⟩) kl.length cap)) (hc : ∀ i (h : i < kl.length), KCells W bb (off + i * 8) kl[i]) (h0 : J [] W) :
    CallsIn F n Try.prog 32 #[.func (.yield l) #[] #[], .pointer (some ⟨Bs, 0, none⟩)] W fun e W' => (∃ v, e = .returned v) ∧
      ((∃ ys, ys = servs kl ∧ J ys W') ∨ (∃ pre : List Int, True ∧ Jx pre W')) := by
  have HC := Lib.hid hc
  clear hc
  refine callsIn_of_wp Try.func32 rfl h32 ?_ hro
  simp only [Try.ntmps32, List.size_toArray, List.length_cons, List.length_nil, Nat.reduceAdd, Nat.reduceSub, Array.replicate_succ, Array.replicate_zero, List.push_toArray, List.append_toArray, List.nil_append, List.cons_append]
  gi_wp2
  gi_loopw [8] (fun i wr => ∃ k : Nat, k ≤ kl.length ∧ i = .int .i64 k ∧ J (servs (kl.take k)) wr ∧ Below n₀ W wr) (fun i _ => kl.length - (intOf i).toNat)
  case atStart => exact ⟨0, Nat.zero_le _, rfl, h0, Below.refl _ _⟩
  case round =>
    obtain ⟨k, hk, rfl, hJs, hnx⟩ := hrel
    by_cases hlt : k < kl.length
    · have hkc := (HC.out k hlt).below hnx hbb
      have hsucc := Lib.hid (servs_take_succ kl k hlt)
      have hlen := servs_len (kl.take k)
      rw [List.length_take, Nat.min_eq_left hk] at hlen
      generalize kl[k] = κ at hkc hsucc
      obtain ⟨q0, q1, q2, q3, q4, q5, q6, q7⟩ := hkc
      have hbn : n₀ ≤ wr.heap.size := Nat.le_trans hn0 hnx.size
      have hJ2 : J (servs (kl.take k)) (wr.alloc (.cells #[.int .i64 κ.id, .int .i64 κ.token, .int .i64 κ.version, .int .i64 κ.zone, .int .u8 κ.phase, .int .i64 κ.since, .bool κ.guarded, .bool κ.complete] 32)) :=
        hJ _ wr _ hJs
      have hB2 : Below n₀ wr (wr.alloc (.cells #[.int .i64 κ.id, .int .i64 κ.token, .int .i64 κ.version, .int .i64 κ.zone, .int .u8 κ.phase, .int .i64 κ.since, .bool κ.guarded, .bool κ.complete] 32)) := (Below.refl _ _).alloc hbn _
      cases hp : (κ.phase == 4) with
      | false =>
        rw [hp] at hsucc
        gi_wp2
        refine ⟨fun _ h => (by cases h), ?_⟩
        gi_wp2
        go_roundw
        case rel => exact ⟨k + 1, by omega, by go_num, by rw [hsucc.out]; simpa using hJ2, hnx.trans hB2⟩
        case measure => simp [intOf]; omega
      | true =>
        rw [hp] at hsucc
        obtain ⟨fn, tmps, assign, body, hy, hR⟩ := hY _ κ.version _ hJ2 (by omega)
        gi_wp2
        refine hR.mono ?_
        rintro e W3 (⟨rfl, hJ3, hk3⟩ | ⟨rfl, hJx3⟩)
        · gi_wp2
          go_roundw
          case rel => exact ⟨k + 1, by omega, by go_num, by rw [hsucc.out]; exact hJ3, hnx.trans (hB2.trans hk3)⟩
          case measure => simp [intOf]; omega
        · gi_wp2
          refine bodyPost_ret (results_none rfl _ _ _) rfl ?_
          exact ⟨⟨_, rfl⟩, .inr ⟨_, trivial, hJx3⟩⟩
    · obtain rfl : k = kl.length := by omega
      gi_wp2
      go_end0
      exact ⟨⟨_, rfl⟩, .inl ⟨_, by rw [List.take_length], hJs⟩⟩

set_option maxRecDepth 100000 in
set_option maxHeartbeats 2000000 in
/-- .. at a slice without elements: no round. -/
theorem serving1_nil_in (F : Fence) (n : Nat) (h32 : F.fn 32) (hro : F.round = none) (l Bs : Nat) (a : Option Addr) (cap : Nat) (J : List Int → World → Prop)
    (W : World) (hBs : W.cell? ⟨Bs, 19, none⟩ = some (.slice a 0 cap)) (h0 : J [] W) :
    CallsIn F n Try.prog 32 #[.func (.yield l) #[] #[], .pointer (some ⟨Bs, 0, none⟩)] W fun e W' => (∃ v, e = .returned v) ∧ J [] W' := by
  refine callsIn_of_wp Try.func32 rfl h32 ?_ hro
  simp only [Try.ntmps32, List.size_toArray, List.length_cons, List.length_nil, Nat.reduceAdd, Nat.reduceSub, Array.replicate_succ, Array.replicate_zero, List.push_toArray, List.append_toArray, List.nil_append, List.cons_append]
  gi_wp2
  gi_loopw [8] (fun i wr => i = .int .i64 0 ∧ J [] wr) (fun _ _ => 0)
  case atStart => exact ⟨rfl, h0⟩
  case round =>
    obtain ⟨rfl, hJs⟩ := hrel
    gi_wp2
    go_end0
    exact ⟨⟨_, rfl⟩, hJs⟩

/-- What serving hands back gives the versions of those that serve, in order. -/
theorem serving_stops (F : Fence) (n : Nat) (h32 : F.fn 32) (hro : F.round = none) (hn : 1 ≤ n) (Bs n₀ : Nat) (v : Value) (kl : List Kp) (hsmall : kl.length ≤ 100) (w : World) (hBs : Bs < w.heap.size) (hn0 : n₀ ≤ w.heap.size)
    (hc : w.cell? ⟨Bs, 19, none⟩ = some v) (hk : KRow w n₀ v kl) :
    SeqStopsK F n Try.prog 32 #[.pointer (some ⟨Bs, 0, none⟩)] (fun x : Int => #[Value.int .i64 x]) (Below n₀) (fun ys => ys = servs kl) (fun _ => True) (kl.length + 1) w := fun l J Jx W hW hJ _ hY h0 => by
  have hc' := (hW.cell (p := ⟨Bs, 19, none⟩) hBs).trans hc
  have hJ' : ∀ s A o, J s A → J s (A.alloc o) := fun s A o h => hJ s A _ none h (World.grownBy_alloc A o none) (fun r e => by cases e)
  rcases hk.below hW hn0 with ⟨a, cap, rfl, rfl⟩ | ⟨b, off, cap, rfl, hb, hcs⟩
  · exact (serving1_nil_in F n h32 hro l Bs a cap J W hc' h0).mono fun e W' ⟨he, hj⟩ => ⟨he, .inl ⟨_, rfl, hj⟩⟩
  · exact serving1_in F n h32 hro hn l Bs n₀ b off cap kl hsmall hb J Jx hJ' hY W (Nat.le_trans hn0 hW.size) hc' hcs h0

theorem serving22_in (F : Fence) (n : Nat) (h22 : F.fn 22) (hro : F.round = none) (b : Br) (w : World) :
    CallsIn F n Try.prog 22 #[.agg #[.int .i64 b.epoch, .int .i64 b.seq, .bool b.set, .int .i64 b.desired, .int .i64 b.minh, .int .i64 b.surplus, .int .i64 b.pool, .int .i64 b.hookIn, .int .i64 b.hookOut, .int .i64 b.warmup, .int .i64 b.drain, .int .i64 b.reap, .int .i64 b.timeout, .int .i64 b.fails, .int .i64 b.delay, .int .i64 b.version, .bool b.skip, .slice b.ma b.ml b.mc, .slice b.ia b.il b.ic, .slice b.ka b.kl b.kc, .int .u8 b.state, .int .i64 b.ffrom, .int .i64 b.target, .int .i64 b.step, .bool b.paused, .int .i64 b.since, .int .i64 b.rfails]] w fun e w' => e = .returned (.func (.func 32) #[] #[.pointer (some ⟨w.heap.size, 0, none⟩)]) ∧ w' = w.alloc (.cells #[.int .i64 b.epoch, .int .i64 b.seq, .bool b.set, .int .i64 b.desired, .int .i64 b.minh, .int .i64 b.surplus, .int .i64 b.pool, .int .i64 b.hookIn, .int .i64 b.hookOut, .int .i64 b.warmup, .int .i64 b.drain, .int .i64 b.reap, .int .i64 b.timeout, .int .i64 b.fails, .int .i64 b.delay, .int .i64 b.version, .bool b.skip, .slice b.ma b.ml b.mc, .slice b.ia b.il b.ic, .slice b.ka b.kl b.kc, .int .u8 b.state, .int .i64 b.ffrom, .int .i64 b.target, .int .i64 b.step, .bool b.paused, .int .i64 b.since, .int .i64 b.rfails] 30) := by
  refine callsIn_of_wp Try.func22 rfl h22 ?_ hro
  simp only [Try.ntmps22, List.size_toArray, List.length_cons, List.length_nil, Nat.reduceAdd, Nat.reduceSub, Array.replicate_succ, Array.replicate_zero, List.push_toArray, List.append_toArray, List.nil_append, List.cons_append]
  gi_wp2
  go_ret
  exact ⟨rfl, rfl⟩

/-- What Serving's closure leaves. -/
def CountsPost (w : World) (v ver m : Int) (Bn : Nat) (e : Ending) (w' : World) : Prop :=
  (∃ x, e = .returned x) ∧ ((v = ver ∧ w' = w.setCell ⟨Bn, 0, none⟩ (.int .i64 (m + 1))) ∨ (v ≠ ver ∧ w' = w))
/-- Serving's closure: it counts. -/
theorem counts_in (F : Fence) (n : Nat) (h21 : F.fn 21) (hro : F.round = none) (v ver m : Int) (Bv Bn : Nat) (hm0 : 0 ≤ m) (hm1 : m ≤ 1000) (w : World) (hv : w.cell? ⟨Bv, 0, none⟩ = some (.int .i64 ver)) (hc : w.cell? ⟨Bn, 0, none⟩ = some (.int .i64 m)) (hf : w.frozen? ⟨Bn, 0, none⟩ = false) :
    CallsIn F n Try.prog 21 #[.int .i64 v, .pointer (some ⟨Bv, 0, none⟩), .pointer (some ⟨Bn, 0, none⟩)] w (CountsPost w v ver m Bn) := by
  refine callsIn_of_wp Try.func21 rfl h21 ?_ hro
  simp only [Try.ntmps21, List.size_toArray, List.length_cons, List.length_nil, Nat.reduceAdd, Nat.reduceSub, Array.replicate_succ, Array.replicate_zero, List.push_toArray, List.append_toArray, List.nil_append, List.cons_append]
  by_cases h : v = ver
  · subst h
    gi_wp2
    go_end0
    exact ⟨⟨_, rfl⟩, .inl ⟨rfl, rfl⟩⟩
  · have h' : (v == ver) = false := by simp [h]
    have H := Lib.hid h
    clear h
    gi_wp2
    go_end0
    exact ⟨⟨_, rfl⟩, .inr ⟨H.out, rfl⟩⟩
end Go.Proofs.Ytpneohekghpkbaa
