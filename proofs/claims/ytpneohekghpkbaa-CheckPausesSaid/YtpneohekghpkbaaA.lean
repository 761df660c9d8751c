/- A brain as the walks speak of it, and the small functions that read it: Version (twice), active, Mark. -/
import Derived.Test.YtpneohekghpkbaaRows
import Derived.WalkKit
import Derived.WalkSpells
import Derived.WalkLawsBesides
import Derived.ProofKit
import Derived.Below
import Derived.Laws.Rows
import Derived.Laws.Tables
import Derived.OwnWalk
import Derived.Outline
import Derived.Lib.Hide
import Derived.Scope
import Derived.WalkMore
namespace Go.Proofs.Ytpneohekghpkbaa
open Go.RowKit

structure Br where
  epoch : Int
  seq : Int
  set : Bool
  desired : Int
  minh : Int
  surplus : Int
  pool : Int
  hookIn : Int
  hookOut : Int
  warmup : Int
  drain : Int
  reap : Int
  timeout : Int
  fails : Int
  delay : Int
  version : Int
  skip : Bool
  ma : Option Addr
  ml : Nat
  mc : Nat
  ia : Option Addr
  il : Nat
  ic : Nat
  ka : Option Addr
  kl : Nat
  kc : Nat
  state : Int
  ffrom : Int
  target : Int
  step : Int
  paused : Bool
  since : Int
  rfails : Int

/-- A block that holds a brain. -/
def BAt (w : World) (B : Nat) (b : Br) : Prop := w.heap[B]? = some (.cells #[.int .i64 b.epoch, .int .i64 b.seq, .bool b.set, .int .i64 b.desired, .int .i64 b.minh, .int .i64 b.surplus, .int .i64 b.pool, .int .i64 b.hookIn, .int .i64 b.hookOut, .int .i64 b.warmup, .int .i64 b.drain, .int .i64 b.reap, .int .i64 b.timeout, .int .i64 b.fails, .int .i64 b.delay, .int .i64 b.version, .bool b.skip, .slice b.ma b.ml b.mc, .slice b.ia b.il b.ic, .slice b.ka b.kl b.kc, .int .u8 b.state, .int .i64 b.ffrom, .int .i64 b.target, .int .i64 b.step, .bool b.paused, .int .i64 b.since, .int .i64 b.rfails] 30 (0, 0))
theorem BAt.below {w w' : World} {N B : Nat} {b : Br} (h : BAt w B b) (hb : Below N w w') (hB : B < N) : BAt w' B b := (hb.block B hB).trans h
theorem BAt.lt {w : World} {B : Nat} {b : Br} (h : BAt w B b) : B < w.heap.size := (Array.getElem?_eq_some_iff.1 h).1
theorem BAt.new (w : World) (b : Br) : BAt (w.alloc (.cells #[.int .i64 b.epoch, .int .i64 b.seq, .bool b.set, .int .i64 b.desired, .int .i64 b.minh, .int .i64 b.surplus, .int .i64 b.pool, .int .i64 b.hookIn, .int .i64 b.hookOut, .int .i64 b.warmup, .int .i64 b.drain, .int .i64 b.reap, .int .i64 b.timeout, .int .i64 b.fails, .int .i64 b.delay, .int .i64 b.version, .bool b.skip, .slice b.ma b.ml b.mc, .slice b.ia b.il b.ic, .slice b.ka b.kl b.kc, .int .u8 b.state, .int .i64 b.ffrom, .int .i64 b.target, .int .i64 b.step, .bool b.paused, .int .i64 b.since, .int .i64 b.rfails] 30)) w.heap.size b := by
  unfold BAt World.alloc
  simp
theorem BAt.f0 {w : World} {B : Nat} {b : Br} (h : BAt w B b) : w.cell? ⟨B, 0, none⟩ = some (.int .i64 b.epoch) := cell_of_row w B 0 _ _ _ h
theorem BAt.f1 {w : World} {B : Nat} {b : Br} (h : BAt w B b) : w.cell? ⟨B, 1, none⟩ = some (.int .i64 b.seq) := cell_of_row w B 1 _ _ _ h
theorem BAt.f2 {w : World} {B : Nat} {b : Br} (h : BAt w B b) : w.cell? ⟨B, 2, none⟩ = some (.bool b.set) := cell_of_row w B 2 _ _ _ h
theorem BAt.f3 {w : World} {B : Nat} {b : Br} (h : BAt w B b) : w.cell? ⟨B, 3, none⟩ = some (.int .i64 b.desired) := cell_of_row w B 3 _ _ _ h
theorem BAt.f4 {w : World} {B : Nat} {b : Br} (h : BAt w B b) : w.cell? ⟨B, 4, none⟩ = some (.int .i64 b.minh) := cell_of_row w B 4 _ _ _ h
theorem BAt.f5 {w : World} {B : Nat} {b : Br} (h : BAt w B b) : w.cell? ⟨B, 5, none⟩ = some (.int .i64 b.surplus) := cell_of_row w B 5 _ _ _ h
theorem BAt.f6 {w : World} {B : Nat} {b : Br} (h : BAt w B b) : w.cell? ⟨B, 6, none⟩ = some (.int .i64 b.pool) := cell_of_row w B 6 _ _ _ h
theorem BAt.f7 {w : World} {B : Nat} {b : Br} (h : BAt w B b) : w.cell? ⟨B, 7, none⟩ = some (.int .i64 b.hookIn) := cell_of_row w B 7 _ _ _ h
theorem BAt.f8 {w : World} {B : Nat} {b : Br} (h : BAt w B b) : w.cell? ⟨B, 8, none⟩ = some (.int .i64 b.hookOut) := cell_of_row w B 8 _ _ _ h
theorem BAt.f9 {w : World} {B : Nat} {b : Br} (h : BAt w B b) : w.cell? ⟨B, 9, none⟩ = some (.int .i64 b.warmup) := cell_of_row w B 9 _ _ _ h
theorem BAt.f10 {w : World} {B : Nat} {b : Br} (h : BAt w B b) : w.cell? ⟨B, 10, none⟩ = some (.int .i64 b.drain) := cell_of_row w B 10 _ _ _ h
theorem BAt.f11 {w : World} {B : Nat} {b : Br} (h : BAt w B b) : w.cell? ⟨B, 11, none⟩ = some (.int .i64 b.reap) := cell_of_row w B 11 _ _ _ h
theorem BAt.f12 {w : World} {B : Nat} {b : Br} (h : BAt w B b) : w.cell? ⟨B, 12, none⟩ = some (.int .i64 b.timeout) := cell_of_row w B 12 _ _ _ h
theorem BAt.f13 {w : World} {B : Nat} {b : Br} (h : BAt w B b) : w.cell? ⟨B, 13, none⟩ = some (.int .i64 b.fails) := cell_of_row w B 13 _ _ _ h
theorem BAt.f14 {w : World} {B : Nat} {b : Br} (h : BAt w B b) : w.cell? ⟨B, 14, none⟩ = some (.int .i64 b.delay) := cell_of_row w B 14 _ _ _ h
theorem BAt.f15 {w : World} {B : Nat} {b : Br} (h : BAt w B b) : w.cell? ⟨B, 15, none⟩ = some (.int .i64 b.version) := cell_of_row w B 15 _ _ _ h
theorem BAt.f16 {w : World} {B : Nat} {b : Br} (h : BAt w B b) : w.cell? ⟨B, 16, none⟩ = some (.bool b.skip) := cell_of_row w B 16 _ _ _ h
theorem BAt.f17 {w : World} {B : Nat} {b : Br} (h : BAt w B b) : w.cell? ⟨B, 17, none⟩ = some (.slice b.ma b.ml b.mc) := cell_of_row w B 17 _ _ _ h
theorem BAt.f18 {w : World} {B : Nat} {b : Br} (h : BAt w B b) : w.cell? ⟨B, 18, none⟩ = some (.slice b.ia b.il b.ic) := cell_of_row w B 18 _ _ _ h
theorem BAt.f19 {w : World} {B : Nat} {b : Br} (h : BAt w B b) : w.cell? ⟨B, 19, none⟩ = some (.slice b.ka b.kl b.kc) := cell_of_row w B 19 _ _ _ h
theorem BAt.f20 {w : World} {B : Nat} {b : Br} (h : BAt w B b) : w.cell? ⟨B, 20, none⟩ = some (.int .u8 b.state) := cell_of_row w B 20 _ _ _ h
theorem BAt.f21 {w : World} {B : Nat} {b : Br} (h : BAt w B b) : w.cell? ⟨B, 21, none⟩ = some (.int .i64 b.ffrom) := cell_of_row w B 21 _ _ _ h
theorem BAt.f22 {w : World} {B : Nat} {b : Br} (h : BAt w B b) : w.cell? ⟨B, 22, none⟩ = some (.int .i64 b.target) := cell_of_row w B 22 _ _ _ h
theorem BAt.f23 {w : World} {B : Nat} {b : Br} (h : BAt w B b) : w.cell? ⟨B, 23, none⟩ = some (.int .i64 b.step) := cell_of_row w B 23 _ _ _ h
theorem BAt.f24 {w : World} {B : Nat} {b : Br} (h : BAt w B b) : w.cell? ⟨B, 24, none⟩ = some (.bool b.paused) := cell_of_row w B 24 _ _ _ h
theorem BAt.f25 {w : World} {B : Nat} {b : Br} (h : BAt w B b) : w.cell? ⟨B, 25, none⟩ = some (.int .i64 b.since) := cell_of_row w B 25 _ _ _ h
theorem BAt.f26 {w : World} {B : Nat} {b : Br} (h : BAt w B b) : w.cell? ⟨B, 26, none⟩ = some (.int .i64 b.rfails) := cell_of_row w B 26 _ _ _ h

def versionOf (b : Br) : Int := if b.state = 1 then b.target else b.version

theorem version20 (b : Br) (w : World) : Calls Try.prog 20 #[.agg #[.int .i64 b.epoch, .int .i64 b.seq, .bool b.set, .int .i64 b.desired, .int .i64 b.minh, .int .i64 b.surplus, .int .i64 b.pool, .int .i64 b.hookIn, .int .i64 b.hookOut, .int .i64 b.warmup, .int .i64 b.drain, .int .i64 b.reap, .int .i64 b.timeout, .int .i64 b.fails, .int .i64 b.delay, .int .i64 b.version, .bool b.skip, .slice b.ma b.ml b.mc, .slice b.ia b.il b.ic, .slice b.ka b.kl b.kc, .int .u8 b.state, .int .i64 b.ffrom, .int .i64 b.target, .int .i64 b.step, .bool b.paused, .int .i64 b.since, .int .i64 b.rfails]] w fun e w' => e = .returned (.int .i64 (versionOf b)) ∧ w' = w.alloc (.cells #[.int .i64 b.epoch, .int .i64 b.seq, .bool b.set, .int .i64 b.desired, .int .i64 b.minh, .int .i64 b.surplus, .int .i64 b.pool, .int .i64 b.hookIn, .int .i64 b.hookOut, .int .i64 b.warmup, .int .i64 b.drain, .int .i64 b.reap, .int .i64 b.timeout, .int .i64 b.fails, .int .i64 b.delay, .int .i64 b.version, .bool b.skip, .slice b.ma b.ml b.mc, .slice b.ia b.il b.ic, .slice b.ka b.kl b.kc, .int .u8 b.state, .int .i64 b.ffrom, .int .i64 b.target, .int .i64 b.step, .bool b.paused, .int .i64 b.since, .int .i64 b.rfails] 30) := by
  by_cases h : b.state = 1
  · have hr := Lib.hid (show versionOf b = b.target by simp [versionOf, h])
    have h' : (b.state == 1) = true := by simp [h]
    clear h
    go_enter Try.func20, Try.ntmps20
    go_wp2
    go_ret
    rw [hr.out]
    exact ⟨rfl, rfl⟩
  · have hr := Lib.hid (show versionOf b = b.version by simp [versionOf, h])
    have h' : (b.state == 1) = false := by simp [h]
    clear h
    go_enter Try.func20, Try.ntmps20
    go_wp2
    go_ret
    rw [hr.out]
    exact ⟨rfl, rfl⟩

theorem version11 (b : Br) (w : World) : Calls Try.prog 11 #[.agg #[.int .i64 b.epoch, .int .i64 b.seq, .bool b.set, .int .i64 b.desired, .int .i64 b.minh, .int .i64 b.surplus, .int .i64 b.pool, .int .i64 b.hookIn, .int .i64 b.hookOut, .int .i64 b.warmup, .int .i64 b.drain, .int .i64 b.reap, .int .i64 b.timeout, .int .i64 b.fails, .int .i64 b.delay, .int .i64 b.version, .bool b.skip, .slice b.ma b.ml b.mc, .slice b.ia b.il b.ic, .slice b.ka b.kl b.kc, .int .u8 b.state, .int .i64 b.ffrom, .int .i64 b.target, .int .i64 b.step, .bool b.paused, .int .i64 b.since, .int .i64 b.rfails]] w fun e w' => e = .returned (.int .i64 (versionOf b)) ∧ w' = w.alloc (.cells #[.int .i64 b.epoch, .int .i64 b.seq, .bool b.set, .int .i64 b.desired, .int .i64 b.minh, .int .i64 b.surplus, .int .i64 b.pool, .int .i64 b.hookIn, .int .i64 b.hookOut, .int .i64 b.warmup, .int .i64 b.drain, .int .i64 b.reap, .int .i64 b.timeout, .int .i64 b.fails, .int .i64 b.delay, .int .i64 b.version, .bool b.skip, .slice b.ma b.ml b.mc, .slice b.ia b.il b.ic, .slice b.ka b.kl b.kc, .int .u8 b.state, .int .i64 b.ffrom, .int .i64 b.target, .int .i64 b.step, .bool b.paused, .int .i64 b.since, .int .i64 b.rfails] 30) := by
  by_cases h : b.state = 1
  · have hr := Lib.hid (show versionOf b = b.target by simp [versionOf, h])
    have h' : (b.state == 1) = true := by simp [h]
    clear h
    go_enter Try.func11, Try.ntmps11
    go_wp2
    go_ret
    rw [hr.out]
    exact ⟨rfl, rfl⟩
  · have hr := Lib.hid (show versionOf b = b.version by simp [versionOf, h])
    have h' : (b.state == 1) = false := by simp [h]
    clear h
    go_enter Try.func11, Try.ntmps11
    go_wp2
    go_ret
    rw [hr.out]
    exact ⟨rfl, rfl⟩

def activeB (b : Br) (p : Bool) : Bool := b.state == 1 && (b.paused == p)

theorem active_any (b : Br) (p : Bool) (w : World) : Calls Try.prog 23 #[.agg #[.int .i64 b.epoch, .int .i64 b.seq, .bool b.set, .int .i64 b.desired, .int .i64 b.minh, .int .i64 b.surplus, .int .i64 b.pool, .int .i64 b.hookIn, .int .i64 b.hookOut, .int .i64 b.warmup, .int .i64 b.drain, .int .i64 b.reap, .int .i64 b.timeout, .int .i64 b.fails, .int .i64 b.delay, .int .i64 b.version, .bool b.skip, .slice b.ma b.ml b.mc, .slice b.ia b.il b.ic, .slice b.ka b.kl b.kc, .int .u8 b.state, .int .i64 b.ffrom, .int .i64 b.target, .int .i64 b.step, .bool b.paused, .int .i64 b.since, .int .i64 b.rfails], .bool p] w fun e w' => e = .returned (.bool (activeB b p)) ∧ Below w.heap.size w w' := by
  have hb : Below w.heap.size w (w.alloc (.cells #[.int .i64 b.epoch, .int .i64 b.seq, .bool b.set, .int .i64 b.desired, .int .i64 b.minh, .int .i64 b.surplus, .int .i64 b.pool, .int .i64 b.hookIn, .int .i64 b.hookOut, .int .i64 b.warmup, .int .i64 b.drain, .int .i64 b.reap, .int .i64 b.timeout, .int .i64 b.fails, .int .i64 b.delay, .int .i64 b.version, .bool b.skip, .slice b.ma b.ml b.mc, .slice b.ia b.il b.ic, .slice b.ka b.kl b.kc, .int .u8 b.state, .int .i64 b.ffrom, .int .i64 b.target, .int .i64 b.step, .bool b.paused, .int .i64 b.since, .int .i64 b.rfails] 30)) := (Below.refl _ _).alloc (Nat.le_refl _) _
  by_cases h : b.state = 1
  · have hr := Lib.hid (show activeB b p = (b.paused == p) by simp [activeB, h])
    have h' : (b.state == 1) = true := by simp [h]
    clear h
    go_enter Try.func23, Try.ntmps23
    go_wp2
    go_ret
    rw [hr.out]
    exact ⟨rfl, hb⟩
  · have hr := Lib.hid (show activeB b p = false by simp [activeB, h])
    have h' : (b.state == 1) = false := by simp [h]
    clear h
    go_enter Try.func23, Try.ntmps23
    go_wp2
    go_ret
    rw [hr.out]
    exact ⟨rfl, hb⟩
end Go.Proofs.Ytpneohekghpkbaa
