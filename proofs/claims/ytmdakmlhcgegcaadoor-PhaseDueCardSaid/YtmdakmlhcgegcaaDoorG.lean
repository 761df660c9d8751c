/- Contracts of waits and Due. -/
import Derived.OwnWalk
import Derived.Lib.Hide
import Derived.Carry
import Derived.LoopTactic
import Derived.Outline
import Derived.Maps.OwnSet
import Derived.Test.YtmdakmlhcgegcaaDoorC
namespace Go.Proofs.YtmdakmlhcgegcaaDoor
open Go.RowKit Go.Shelf

theorem alloc_set (W : World) (o o' : Obj) : { W.alloc o with heap := (W.alloc o).heap.setIfInBounds W.heap.size o' } = W.alloc o' := by
  show ({ W with heap := (W.heap.push o).setIfInBounds W.heap.size o' } : World) = { W with heap := W.heap.push o' }
  congr 1
  apply Array.ext_getElem?
  intro i
  by_cases h : W.heap.size = i
  · subst h; simp
  · rw [Array.getElem?_setIfInBounds_ne h]
    simp [Array.getElem?_push, Ne.symm h]

theorem run_insert_new {W : World} {es : Array MapEntry} {clock : Nat} (k : Int) (x : Value) (hf : Instr.findNow (.int .u8) (.int .u8 k) es.toList 0 = some none) :
    (Instr.mapUpdate 42 (.map (some W.heap.size)) (.int .u8 k) x).run Tryd.prog (W.alloc (.map es clock)) = .ok () (W.alloc (.map (es.push { key := .int .u8 k, val := x, born := clock }) (clock + 1))) := by
  have hb : (W.alloc (.map es clock)).heap[W.heap.size]? = some (.map es clock) := World.alloc_heap_new W _
  have hc : (Instr.checkKey false 10000 5 (.int .u8 k)).run Tryd.prog (W.alloc (.map es clock)) = .ok () (W.alloc (.map es clock)) := MapKept.run_checkKey (k := .int .u8 k) Tryd.underlying5 (by simp [MapKept.IsKey]) false 9999
  rw [← alloc_set W (.map es clock) (.map (es.push { key := .int .u8 k, val := x, born := clock }) (clock + 1))]
  simp [Instr.mapUpdate, run_underlying Tryd.underlying42, MapKept.run_getObj_map hb, hc, MapKept.run_findKey Tryd.underlying5 hf, MapKept.run_setObj_map _ hb, Result.andThen]

/-- The entries of the map that waits makes. -/
def waitsMap (hin warm drain hout : Int) : Array MapEntry :=
  #[{ key := .int .u8 1, val := .agg #[.int .i64 hin, .bool true], born := 0 }, { key := .int .u8 2, val := .agg #[.int .i64 warm, .bool false], born := 1 },
    { key := .int .u8 6, val := .agg #[.int .i64 drain, .bool false], born := 2 }, { key := .int .u8 7, val := .agg #[.int .i64 hout, .bool true], born := 3 }]

set_option maxRecDepth 100000 in
set_option maxHeartbeats 1000000 in
theorem waits_any (c0 c1 c2 c3 : Value) (hin hout warm drain : Int) (c8 c9 c10 c11 c12 c13 c14 : Value) (w : World) :
    Calls Tryd.prog 15 #[.agg #[c0, c1, c2, c3, .int .i64 hin, .int .i64 hout, .int .i64 warm, .int .i64 drain, c8, c9, c10, c11, c12, c13, c14]] w fun e w' =>
      e = .returned (.map (some (w.heap.size + 1))) ∧ w' = (w.alloc (.cells #[c0, c1, c2, c3, .int .i64 hin, .int .i64 hout, .int .i64 warm, .int .i64 drain, c8, c9, c10, c11, c12, c13, c14] 26)).alloc (.map (waitsMap hin warm drain hout) 4) := by
  have hmm := @run_makeMap Tryd.prog
  have m0 := fun x => run_insert_new (W := w.alloc (.cells #[c0, c1, c2, c3, .int .i64 hin, .int .i64 hout, .int .i64 warm, .int .i64 drain, c8, c9, c10, c11, c12, c13, c14] 26)) (es := #[]) (clock := 0) 1 x rfl
  have m1 := fun x y => run_insert_new (W := w.alloc (.cells #[c0, c1, c2, c3, .int .i64 hin, .int .i64 hout, .int .i64 warm, .int .i64 drain, c8, c9, c10, c11, c12, c13, c14] 26)) (es := #[{ key := .int .u8 1, val := x, born := 0 }]) (clock := 1) 2 y rfl
  have m2 := fun x y z => run_insert_new (W := w.alloc (.cells #[c0, c1, c2, c3, .int .i64 hin, .int .i64 hout, .int .i64 warm, .int .i64 drain, c8, c9, c10, c11, c12, c13, c14] 26)) (es := #[{ key := .int .u8 1, val := x, born := 0 }, { key := .int .u8 2, val := y, born := 1 }]) (clock := 2) 6 z rfl
  have m3 := fun x y z u => run_insert_new (W := w.alloc (.cells #[c0, c1, c2, c3, .int .i64 hin, .int .i64 hout, .int .i64 warm, .int .i64 drain, c8, c9, c10, c11, c12, c13, c14] 26)) (es := #[{ key := .int .u8 1, val := x, born := 0 }, { key := .int .u8 2, val := y, born := 1 }, { key := .int .u8 6, val := z, born := 2 }]) (clock := 3) 7 u rfl
  simp only [World.size_alloc, List.push_toArray, List.nil_append, List.cons_append, Nat.reduceAdd] at m0 m1 m2 m3
  go_enter Tryd.func15, Tryd.ntmps15
  go_wp2_with fail
  go_ret
  exact ⟨rfl, rfl⟩

/-- What is told of a phase's wait: ticks, whether a hook ends it, whether there is one. -/
def waitsAt (hin warm drain hout : Int) (p : Int) : Int × Bool × Bool :=
  if p = 1 then (hin, true, true) else if p = 2 then (warm, false, true) else if p = 6 then (drain, false, true) else if p = 7 then (hout, true, true) else (0, false, false)

theorem run_waits_lookup (hin warm drain hout p : Int) (W : World) (r : Nat) (hb : W.heap[r]? = some (.map (waitsMap hin warm drain hout) 4)) :
    (Instr.lookup 42 (.map (some r)) (.int .u8 p) true).run Tryd.prog W = .ok (.tuple #[.agg #[.int .i64 (waitsAt hin warm drain hout p).1, .bool (waitsAt hin warm drain hout p).2.1], .bool (waitsAt hin warm drain hout p).2.2]) W := by
  have hc : ∀ b, (Instr.checkKey b 10000 5 (.int .u8 p)).run Tryd.prog W = .ok () W := fun b => MapKept.run_checkKey (k := .int .u8 p) Tryd.underlying5 (by simp [MapKept.IsKey]) b 9999
  by_cases h1 : p = 1
  · subst h1
    have hf : Instr.findNow (.int .u8) (.int .u8 1) (waitsMap hin warm drain hout).toList 0 = some (some (0, .agg #[.int .i64 hin, .bool true])) := rfl
    simp [Instr.lookup, run_underlying Tryd.underlying42, MapKept.run_getObj_map hb, hc, MapKept.run_findKey Tryd.underlying5 hf, Result.andThen, waitsAt]
  by_cases h2 : p = 2
  · subst h2
    have hf : Instr.findNow (.int .u8) (.int .u8 2) (waitsMap hin warm drain hout).toList 0 = some (some (1, .agg #[.int .i64 warm, .bool false])) := rfl
    simp [Instr.lookup, run_underlying Tryd.underlying42, MapKept.run_getObj_map hb, hc, MapKept.run_findKey Tryd.underlying5 hf, Result.andThen, waitsAt]
  by_cases h3 : p = 6
  · subst h3
    have hf : Instr.findNow (.int .u8) (.int .u8 6) (waitsMap hin warm drain hout).toList 0 = some (some (2, .agg #[.int .i64 drain, .bool false])) := rfl
    simp [Instr.lookup, run_underlying Tryd.underlying42, MapKept.run_getObj_map hb, hc, MapKept.run_findKey Tryd.underlying5 hf, Result.andThen, waitsAt]
  by_cases h4 : p = 7
  · subst h4
    have hf : Instr.findNow (.int .u8) (.int .u8 7) (waitsMap hin warm drain hout).toList 0 = some (some (3, .agg #[.int .i64 hout, .bool true])) := rfl
    simp [Instr.lookup, run_underlying Tryd.underlying42, MapKept.run_getObj_map hb, hc, MapKept.run_findKey Tryd.underlying5 hf, Result.andThen, waitsAt]
  have hf : Instr.findNow (.int .u8) (.int .u8 p) (waitsMap hin warm drain hout).toList 0 = some none := by
    have e1 : (p == 1) = false := by simp [h1]
    have e2 : (p == 2) = false := by simp [h2]
    have e3 : (p == 6) = false := by simp [h3]
    have e4 : (p == 7) = false := by simp [h4]
    simp only [waitsMap, Instr.findNow, Instr.sameNow, e1, e2, e3, e4, if_true]
  simp [Instr.lookup, run_underlying Tryd.underlying42, MapKept.run_getObj_map hb, hc, MapKept.run_findKey Tryd.underlying5 hf, Result.andThen, waitsAt, h1, h2, h3, h4]
end Go.Proofs.YtmdakmlhcgegcaaDoor
