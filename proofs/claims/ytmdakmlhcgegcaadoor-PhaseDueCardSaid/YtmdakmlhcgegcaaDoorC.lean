/- Contracts of Name, next, its closure, and Legal. -/
import Derived.RangeFuncNested
import Derived.RangeFuncBound
import Derived.RangeFuncCalls
import Derived.RangeFuncLeaves
import Derived.RangeFuncFrom
import Derived.RangeFuncBox
import Derived.Shelf.Abstract
import Derived.Shelf.RegionOpen
import Derived.WalkKit
import Derived.OwnWalkIn
import Derived.TacticsInMore
import Derived.LoopNIn
import Derived.LoopIn
import Derived.Outline
import Derived.Test.YtmdakmlhcgegcaaDoorA
import Derived.Test.YtmdakmlhcgegcaaDoorB
namespace Go.Proofs.YtmdakmlhcgegcaaDoor
open Go.RowKit Go.Shelf

theorem cell_of_box_l {W : World} {B : Nat} {v : Value} {t : TypeId} (h : W.heap[B]? = some (.cells #[v] t (0, 0))) : W.cell? ⟨B, 0, none⟩ = some v ∧ W.frozen? ⟨B, 0, none⟩ = false := by
  constructor <;> simp [World.cell?, World.frozen?, h]
theorem cell_new_l (W : World) (v : Value) (t : TypeId) : (W.alloc (.cells #[v] t)).cell? ⟨W.heap.size, 0, none⟩ = some v ∧ (W.alloc (.cells #[v] t)).frozen? ⟨W.heap.size, 0, none⟩ = false :=
  cell_of_box_l (World.alloc_heap_new W _)
theorem cell_alloc_l {W : World} {a : Addr} {v : Value} (o : Obj) (h : W.cell? a = some v) : (W.alloc o).cell? a = some v := cell_kept h (World.grownBy_alloc W o none) (fun r e => by cases e)
theorem frozen_alloc_l {W : World} {a : Addr} {v : Value} (o : Obj) (h : W.cell? a = some v) (hf : W.frozen? a = false) : (W.alloc o).frozen? a = false := (frozen_kept h (World.grownBy_alloc W o none) (fun r e => by cases e)).trans hf

def nameV (a : Int) : ByteArray := if a < 11 then nameS a.toNat else ⟨#[]⟩

theorem name_low (a : Int) (h0 : 0 ≤ a) (h1 : a < 11) (w : World) (hT : Tables w) :
    Calls Tryd.prog 12 #[.int .u8 a] w fun e w' => e = .returned (.string (nameS a.toNat)) ∧ w = w' := by
  have hc := hT.names a.toNat (by omega)
  clear hT
  go_enter Tryd.func12, Tryd.ntmps12
  go_wp2
  go_ret
  exact ⟨rfl, rfl⟩

theorem name_high (a : Int) (h1 : 11 ≤ a) (h2 : a ≤ 255) (w : World) :
    Calls Tryd.prog 12 #[.int .u8 a] w fun e w' => e = .returned (.string ⟨#[]⟩) ∧ w = w' := by
  go_enter Tryd.func12, Tryd.ntmps12
  go_wp2
  go_ret
  exact ⟨rfl, rfl⟩

theorem name_any (a : Int) (h0 : 0 ≤ a) (h2 : a ≤ 255) (w : World) (hT : Tables w) :
    Calls Tryd.prog 12 #[.int .u8 a] w fun e w' => e = .returned (.string (nameV a)) ∧ w = w' := by
  unfold nameV
  by_cases h : a < 11
  · rw [if_pos h]; exact name_low a h0 h w hT
  · rw [if_neg h]; exact name_high a (by omega) h2 w

theorem next_in (F : Fence) (n : Nat) (h : F.fn 16) (hro : F.round = none) (a : Int) (w : World) :
    CallsIn F n Tryd.prog 16 #[.int .u8 a] w fun e w' => e = .returned (.func (.func 19) #[] #[.pointer (some ⟨w.heap.size, 0, none⟩)]) ∧ w' = w.alloc (.cells #[.int .u8 a] 5) := by
  refine callsIn_of_wp Tryd.func16 rfl h ?_ hro
  simp only [Tryd.ntmps16, List.size_toArray, List.length_cons, List.length_nil, Nat.reduceAdd, Nat.reduceSub, Array.replicate_succ, Array.replicate_zero, List.push_toArray, List.append_toArray, List.nil_append, List.cons_append]
  gi_wp2
  go_ret
  exact ⟨rfl, rfl⟩
end Go.Proofs.YtmdakmlhcgegcaaDoor
