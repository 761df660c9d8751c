/-
  NARROWER THAN 'FOR EVERY INPUT', by the rows' own cells (each row's printed sentence says how): PhaseDue: laid · PhaseKinds: laid · PhasePath: laid · PhaseFind: laid.
  DERIVED. THE GIVEN ROWS OF THIS SEAT. 4 by the template 'for every input the law returns true; each argument reads behind the call as it read before'; 0 by the template 'total and deterministic' (their statements: YtmdakmlhcgegcaaDoorTotals.lean).
  GIVEN WITH THE SEED: the statements are not yours to turn. If you find one false, say at which input.
  Laid BY PROGRAM, IN A SANDBOX (cutbox-rows.mjs): the forced cells as the released guide's own fill.sh prints them over the translation 777d9fa25cc8356d… (all of the seat's roots in one cut). By AI agents, Wed Nov 11 2026. No macro, syntax, notation, axiom, sorry.
-/
import Derived.Test.YtmdakmlhcgegcaaDoorChecked
import GoSem.Claim
import GoSem.ClaimJoined
import GoSem.ClaimMapViews
import Derived.JoinedTies
import Derived.KernelRfl
namespace Go.Proofs.YtmdakmlhcgegcaaDoor
/- THE CELL 'sum', in the pinned program and in every row, IS THE sha256 OF THE DUMP (.gsa) THAT YtmdakmlhcgegcaaDoorProg.lean LOADS. Nothing in Lean hashes anything: it is a label: what it is worth is what the hold of that sum in a sandbox is worth. -/
noncomputable def Tryd.pinned : Pinned := { name := "ytmdakmlhcgegcaadoor", sum := "777d9fa25cc8356db50709bfe0c86fef1a49112bf2be1bb70eb93639b1251ced", checked := Tryd.checked }
namespace Rows
def none {H : Type} : Left H := { results := [], args := [] }

/- WHAT THE LISTED PACKAGE-LEVEL VARIABLES READ AS WHEN THE CALL BEGINS. Each datum BY PROGRAM (the guide's laid-datum.mjs) off the statement by which the dump's own 'gosem.cut.vars' lays the variable. In a bare row this is a premise. The card (YtmdakmlhcgegcaaDoorCards.lean) ties it to the program's text. -/
def laid_herd_phase_follow {H : Type} : DataW H := .agg [.agg [.lit (.int .u8 0), .lit (.int .u8 0)], .agg [.lit (.int .u8 2), .lit (.int .u8 8)], .agg [.lit (.int .u8 3), .lit (.int .u8 8)], .agg [.lit (.int .u8 4), .lit (.int .u8 0)], .agg [.lit (.int .u8 5), .lit (.int .u8 3)], .agg [.lit (.int .u8 6), .lit (.int .u8 4)], .agg [.lit (.int .u8 7), .lit (.int .u8 0)], .agg [.lit (.int .u8 8), .lit (.int .u8 0)], .agg [.lit (.int .u8 0), .lit (.int .u8 0)], .agg [.lit (.int .u8 10), .lit (.int .u8 8)], .agg [.lit (.int .u8 1), .lit (.int .u8 0)]]
def laid_herd_phase_names {H : Type} : DataW H := .agg [.lit (.string []), .lit (.string [104, 101, 108, 100]), .lit (.string [121, 111, 117, 110, 103]), .lit (.string [106, 111, 105, 110, 105, 110, 103]), .lit (.string [115, 101, 114, 118, 105, 110, 103]), .lit (.string [108, 101, 97, 118, 105, 110, 103]), .lit (.string [108, 101, 102, 116]), .lit (.string [104, 101, 108, 100, 111, 117, 116]), .lit (.string [101, 110, 100, 105, 110, 103]), .lit (.string [119, 97, 114, 109, 101, 100]), .lit (.string [119, 97, 107, 105, 110, 103])]

/-- 'herdlaw14.PhaseDue': WHATEVER THE INPUT: true; the input reads as it did. -/
def phaseDueSpec : ChangeSpec := { name := "phaseDue", fn := fun _ => fun
  | [d1, d2, d3, d4] => { results := [.lit (.bool true)], args := [d1, d2, d3, d4] }
  | _ => none }
def phaseDueRow : OpenClaim := { program := "ytmdakmlhcgegcaadoor", sum := "777d9fa25cc8356db50709bfe0c86fef1a49112bf2be1bb70eb93639b1251ced", func := "herd/herdlaw14.PhaseDue", spec := "phaseDue", unfollowed := true, recurses := true, named := ["herd/phase.follow", "herd/phase.names"], apart := false, laid := [("herd/phase.follow", laid_herd_phase_follow), ("herd/phase.names", laid_herd_phase_names)] }
def PhaseDueSaid : Prop := phaseDueRow.holds Tryd.pinned (OpenSpec.ofChange phaseDueSpec)

/-- ITS FALSE NEIGHBOUR: 'it returns false'. Refute it at one input. -/
def phaseDueWrong : ChangeSpec := { name := "phaseDue", fn := fun _ => fun
  | [d1, d2, d3, d4] => { results := [.lit (.bool false)], args := [d1, d2, d3, d4] }
  | _ => none }
def PhaseDueWrongFalsely : Prop := phaseDueRow.holds Tryd.pinned (OpenSpec.ofChange phaseDueWrong)

/-- 'herdlaw14.PhaseKinds': WHATEVER THE INPUT: true; the input reads as it did. -/
def phaseKindsSpec : ChangeSpec := { name := "phaseKinds", fn := fun _ => fun
  | [d1, d2] => { results := [.lit (.bool true)], args := [d1, d2] }
  | _ => none }
def phaseKindsRow : OpenClaim := { program := "ytmdakmlhcgegcaadoor", sum := "777d9fa25cc8356db50709bfe0c86fef1a49112bf2be1bb70eb93639b1251ced", func := "herd/herdlaw14.PhaseKinds", spec := "phaseKinds", unfollowed := true, recurses := true, named := ["herd/phase.names", "herd/phase.follow"], apart := false, laid := [("herd/phase.follow", laid_herd_phase_follow), ("herd/phase.names", laid_herd_phase_names)] }
def PhaseKindsSaid : Prop := phaseKindsRow.holds Tryd.pinned (OpenSpec.ofChange phaseKindsSpec)

/-- ITS FALSE NEIGHBOUR: 'it returns false'. Refute it at one input. -/
def phaseKindsWrong : ChangeSpec := { name := "phaseKinds", fn := fun _ => fun
  | [d1, d2] => { results := [.lit (.bool false)], args := [d1, d2] }
  | _ => none }
def PhaseKindsWrongFalsely : Prop := phaseKindsRow.holds Tryd.pinned (OpenSpec.ofChange phaseKindsWrong)

/-- 'herdlaw14.PhasePath': WHATEVER THE INPUT: true; the input reads as it did. -/
def phasePathSpec : ChangeSpec := { name := "phasePath", fn := fun _ => fun
  | [d] => { results := [.lit (.bool true)], args := [d] }
  | _ => none }
def phasePathRow : OpenClaim := { program := "ytmdakmlhcgegcaadoor", sum := "777d9fa25cc8356db50709bfe0c86fef1a49112bf2be1bb70eb93639b1251ced", func := "herd/herdlaw14.PhasePath", spec := "phasePath", unfollowed := true, recurses := true, named := ["herd/phase.follow", "herd/phase.names"], apart := false, laid := [("herd/phase.follow", laid_herd_phase_follow), ("herd/phase.names", laid_herd_phase_names)] }
def PhasePathSaid : Prop := phasePathRow.holds Tryd.pinned (OpenSpec.ofChange phasePathSpec)

/-- ITS FALSE NEIGHBOUR: 'it returns false'. Refute it at one input. -/
def phasePathWrong : ChangeSpec := { name := "phasePath", fn := fun _ => fun
  | [d] => { results := [.lit (.bool false)], args := [d] }
  | _ => none }
def PhasePathWrongFalsely : Prop := phasePathRow.holds Tryd.pinned (OpenSpec.ofChange phasePathWrong)

/-- 'herdlaw14.PhaseFind': WHATEVER THE INPUT: true; the input reads as it did. -/
def phaseFindSpec : ChangeSpec := { name := "phaseFind", fn := fun _ => fun
  | [d1, d2] => { results := [.lit (.bool true)], args := [d1, d2] }
  | _ => none }
def phaseFindRow : OpenClaim := { program := "ytmdakmlhcgegcaadoor", sum := "777d9fa25cc8356db50709bfe0c86fef1a49112bf2be1bb70eb93639b1251ced", func := "herd/herdlaw14.PhaseFind", spec := "phaseFind", unfollowed := true, recurses := true, named := ["herd/phase.follow", "herd/phase.names"], apart := false, laid := [("herd/phase.follow", laid_herd_phase_follow), ("herd/phase.names", laid_herd_phase_names)] }
def PhaseFindSaid : Prop := phaseFindRow.holds Tryd.pinned (OpenSpec.ofChange phaseFindSpec)

/-- ITS FALSE NEIGHBOUR: 'it returns false'. Refute it at one input. -/
def phaseFindWrong : ChangeSpec := { name := "phaseFind", fn := fun _ => fun
  | [d1, d2] => { results := [.lit (.bool false)], args := [d1, d2] }
  | _ => none }
def PhaseFindWrongFalsely : Prop := phaseFindRow.holds Tryd.pinned (OpenSpec.ofChange phaseFindWrong)

/- THE SECOND FORM. 'bulk': how many values and letters a reading holds, each counted each time it is reached (what is shared counts as often as it is met; a slice's spare places count too). A statement '..UptoSaid' is the law's where the arguments, and the package variables that the reading takes, are together of bulk at most 1048576: NARROWER than '..Said'. Prove '..Said' where nothing that the law and all that it calls make is longer than what came in: it says more and counts as full. Else prove '..UptoSaid'. A law counts once. -/
mutual
def uptoBulk {H : Type} : DataW H → Nat
  | .lit (.string bytes) => bytes.length + 1
  | .lit _ => 1
  | .nil => 1
  | .ptr d => uptoBulk d + 1
  | .slice elems spare => uptoBulkAll elems + uptoBulkAll spare + 1
  | .agg parts => uptoBulkAll parts + 1
  | .iface _ d => uptoBulk d + 1
  | .map entries => uptoBulkEntries entries + 1
  | .held _ => 1
def uptoBulkAll {H : Type} : List (DataW H) → Nat
  | [] => 0
  | d :: r => uptoBulk d + uptoBulkAll r
def uptoBulkEntries {H : Type} : List (Lit × DataW H) → Nat
  | [] => 0
  | x :: r => uptoBulkEntry x + uptoBulkEntries r
def uptoBulkEntry {H : Type} : Lit × DataW H → Nat
  | (.string bytes, d) => bytes.length + uptoBulk d + 1
  | (_, d) => uptoBulk d + 1
 end
def uptoSmall : (H : Type) → List (DataW H) → Bool := fun _ ds => decide (uptoBulkAll ds ≤ 1048576)
def OpenSpec.upto (s : _root_.Go.ChangeSpec) : _root_.Go.OpenSpec := { _root_.Go.OpenSpec.ofChange s with cond := some uptoSmall }

/-- 'herdlaw14.PhaseDue', WHERE WHAT IT READS IS OF BULK AT MOST 1048576: true; the input reads as it did. -/
def phaseDueUptoRow : OpenClaim := { program := "ytmdakmlhcgegcaadoor", sum := "777d9fa25cc8356db50709bfe0c86fef1a49112bf2be1bb70eb93639b1251ced", func := "herd/herdlaw14.PhaseDue", spec := "phaseDue", unfollowed := true, recurses := true, named := ["herd/phase.follow", "herd/phase.names"], apart := false, laid := [("herd/phase.follow", laid_herd_phase_follow), ("herd/phase.names", laid_herd_phase_names)], narrowed := true }
def PhaseDueUptoSaid : Prop := phaseDueUptoRow.holds Tryd.pinned (OpenSpec.upto phaseDueSpec)

/-- 'herdlaw14.PhaseKinds', WHERE WHAT IT READS IS OF BULK AT MOST 1048576: true; the input reads as it did. -/
def phaseKindsUptoRow : OpenClaim := { program := "ytmdakmlhcgegcaadoor", sum := "777d9fa25cc8356db50709bfe0c86fef1a49112bf2be1bb70eb93639b1251ced", func := "herd/herdlaw14.PhaseKinds", spec := "phaseKinds", unfollowed := true, recurses := true, named := ["herd/phase.names", "herd/phase.follow"], apart := false, laid := [("herd/phase.follow", laid_herd_phase_follow), ("herd/phase.names", laid_herd_phase_names)], narrowed := true }
def PhaseKindsUptoSaid : Prop := phaseKindsUptoRow.holds Tryd.pinned (OpenSpec.upto phaseKindsSpec)

/-- 'herdlaw14.PhasePath', WHERE WHAT IT READS IS OF BULK AT MOST 1048576: true; the input reads as it did. -/
def phasePathUptoRow : OpenClaim := { program := "ytmdakmlhcgegcaadoor", sum := "777d9fa25cc8356db50709bfe0c86fef1a49112bf2be1bb70eb93639b1251ced", func := "herd/herdlaw14.PhasePath", spec := "phasePath", unfollowed := true, recurses := true, named := ["herd/phase.follow", "herd/phase.names"], apart := false, laid := [("herd/phase.follow", laid_herd_phase_follow), ("herd/phase.names", laid_herd_phase_names)], narrowed := true }
def PhasePathUptoSaid : Prop := phasePathUptoRow.holds Tryd.pinned (OpenSpec.upto phasePathSpec)

/-- 'herdlaw14.PhaseFind', WHERE WHAT IT READS IS OF BULK AT MOST 1048576: true; the input reads as it did. -/
def phaseFindUptoRow : OpenClaim := { program := "ytmdakmlhcgegcaadoor", sum := "777d9fa25cc8356db50709bfe0c86fef1a49112bf2be1bb70eb93639b1251ced", func := "herd/herdlaw14.PhaseFind", spec := "phaseFind", unfollowed := true, recurses := true, named := ["herd/phase.follow", "herd/phase.names"], apart := false, laid := [("herd/phase.follow", laid_herd_phase_follow), ("herd/phase.names", laid_herd_phase_names)], narrowed := true }
def PhaseFindUptoSaid : Prop := phaseFindUptoRow.holds Tryd.pinned (OpenSpec.upto phaseFindSpec)

end Rows
end Go.Proofs.YtmdakmlhcgegcaaDoor
