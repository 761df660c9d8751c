/- What the rows of this seat share: the world of the witness, and what the listed variables give. -/
import Derived.Test.YtmdakmlhcgegcaaDoorCards
import Derived.Test.YtmdakmlhcgegcaaDoorTie
import Derived.Deep.DeepHandedRow
import Derived.Test.YtmdakmlhcgegcaaDoorB
namespace Go.Proofs.YtmdakmlhcgegcaaDoor
open Go.ChangeShapes Go.WideShapes Go.ChangeAt Go.RowKit

theorem own : ownKnob Tryd.prog.godebug = none := by kernel_rfl
theorem laidOut : laidOutB Tryd.prog = true := by kernel_rfl

theorem Tables.two {w : World} (h : Tables w) : 2 ≤ w.heap.size := by
  have := h.names 0 (by decide)
  unfold World.cell? at this
  have hlt : 1 < w.heap.size := by
    cases hb : w.heap[1]? with
    | none => simp [hb] at this
    | some o => exact (Array.getElem?_eq_some_iff.1 hb).1
  exact hlt

def withCells (cs : Array Value) : Obj → Obj
  | .cells _ t frozen => .cells cs t frozen
  | o => o
/-- A world for a witness: the settled one, both tables holding what their initialisers lay. -/
noncomputable def laidWorld (os : Os) : World :=
  { World.holding Tryd.prog os ⟨#[], #[], []⟩ with heap := ((World.holding Tryd.prog os ⟨#[], #[], []⟩).heap.modify 0 (withCells (followL.flatten.map fun n => Value.int .u8 n).toArray)).modify 1 (withCells (namesL.map fun n => Value.string ⟨n.toArray⟩).toArray) }
theorem laid_met (os : Os) : laidMet Tryd.prog laidL ((laidWorld os).forCall (fun _ _ => 0) ⟨#[], #[.int .u8 0, .int .u8 0], []⟩).memory :=
  laidMet_of_run' 8 (by kernel_rfl) (by kernel_rfl)
end Go.Proofs.YtmdakmlhcgegcaaDoor
