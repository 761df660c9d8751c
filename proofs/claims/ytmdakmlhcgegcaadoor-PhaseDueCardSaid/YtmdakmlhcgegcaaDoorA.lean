/- Contracts of the small functions of package phase: Stands, Goes, Name. -/
import Derived.Test.YtmdakmlhcgegcaaDoorRows
import Derived.WalkKit
import Derived.WalkSpells
import Derived.WalkLawsBesides
import Derived.ProofKit
import Derived.Below
namespace Go.Proofs.YtmdakmlhcgegcaaDoor
open Go.RowKit

def standsB (a : Int) : Bool := a == 1 || a == 2 || a == 3 || a == 4 || a == 10
def goesB (a : Int) : Bool := decide (5 ≤ a) && decide (a ≤ 8)

theorem stands_any (a : Int) (w : World) :
    Calls Tryd.prog 10 #[.int .u8 a] w fun e w' => e = .returned (.bool (standsB a)) ∧ w = w' := by
  go_enter Tryd.func10, Tryd.ntmps10
  go_wp2
  all_goals go_ret
  all_goals exact ⟨by simp [standsB, *], rfl⟩

theorem goes_any (a : Int) (w : World) :
    Calls Tryd.prog 11 #[.int .u8 a] w fun e w' => e = .returned (.bool (goesB a)) ∧ w = w' := by
  go_enter Tryd.func11, Tryd.ntmps11
  go_wp2
  all_goals go_ret
  all_goals exact ⟨by simp [goesB]; omega, rfl⟩
end Go.Proofs.YtmdakmlhcgegcaaDoor
