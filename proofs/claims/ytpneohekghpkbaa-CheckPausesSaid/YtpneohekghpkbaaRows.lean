/-
  No cell of these rows narrows 'for every input' (looked for: loops, veiled, ifaces, maps, wideKeys, modest, calm, conditions, laid).
  DERIVED. THE GIVEN ROWS OF THIS SEAT. 3 by the template 'for every input the law returns true; each argument reads behind the call as it read before'; 0 by the template 'total and deterministic' (their statements: YtpneohekghpkbaaTotals.lean).
  GIVEN WITH THE SEED: the statements are not yours to turn. If you find one false, say at which input.
  Laid BY PROGRAM, IN A SANDBOX (cutbox-rows.mjs): the forced cells as the released guide's own fill.sh prints them over the translation 9a1a8929274f7f02… (all of the seat's roots in one cut). By AI agents, Wed Nov 11 2026. No macro, syntax, notation, axiom, sorry.
-/
import Derived.Test.YtpneohekghpkbaaChecked
import GoSem.Claim
import GoSem.ClaimJoined
import GoSem.ClaimMapViews
import Derived.JoinedTies
import Derived.KernelRfl
namespace Go.Proofs.Ytpneohekghpkbaa
/- THE CELL 'sum', in the pinned program and in every row, IS THE sha256 OF THE DUMP (.gsa) THAT YtpneohekghpkbaaProg.lean LOADS. Nothing in Lean hashes anything: it is a label: what it is worth is what the hold of that sum in a sandbox is worth. -/
noncomputable def Try.pinned : Pinned := { name := "ytpneohekghpkbaa", sum := "9a1a8929274f7f0268de1b1378925dbb50349d3c047b94be438f7b6519552057", checked := Try.checked }
namespace Rows
def none {H : Type} : Left H := { results := [], args := [] }

/-- 'herdlaw17.CheckProgress': WHATEVER THE INPUT: true; the input reads as it did. -/
def checkProgressSpec : ChangeSpec := { name := "checkProgress", fn := fun _ => fun
  | [d1, d2] => { results := [.lit (.bool true)], args := [d1, d2] }
  | _ => none }
def checkProgressRow : OpenClaim := { program := "ytpneohekghpkbaa", sum := "9a1a8929274f7f0268de1b1378925dbb50349d3c047b94be438f7b6519552057", func := "herd/herdlaw17.CheckProgress", spec := "checkProgress", unfollowed := true, recurses := true, apart := false }
def CheckProgressSaid : Prop := checkProgressRow.holds Try.pinned (OpenSpec.ofChange checkProgressSpec)

/-- ITS FALSE NEIGHBOUR: 'it returns false'. Refute it at one input. -/
def checkProgressWrong : ChangeSpec := { name := "checkProgress", fn := fun _ => fun
  | [d1, d2] => { results := [.lit (.bool false)], args := [d1, d2] }
  | _ => none }
def CheckProgressWrongFalsely : Prop := checkProgressRow.holds Try.pinned (OpenSpec.ofChange checkProgressWrong)

/-- 'herdlaw17.CheckPauses': WHATEVER THE INPUT: true; the input reads as it did. -/
def checkPausesSpec : ChangeSpec := { name := "checkPauses", fn := fun _ => fun
  | [d1, d2] => { results := [.lit (.bool true)], args := [d1, d2] }
  | _ => none }
def checkPausesRow : OpenClaim := { program := "ytpneohekghpkbaa", sum := "9a1a8929274f7f0268de1b1378925dbb50349d3c047b94be438f7b6519552057", func := "herd/herdlaw17.CheckPauses", spec := "checkPauses", unfollowed := true, recurses := true, apart := false }
def CheckPausesSaid : Prop := checkPausesRow.holds Try.pinned (OpenSpec.ofChange checkPausesSpec)

/-- ITS FALSE NEIGHBOUR: 'it returns false'. Refute it at one input. -/
def checkPausesWrong : ChangeSpec := { name := "checkPauses", fn := fun _ => fun
  | [d1, d2] => { results := [.lit (.bool false)], args := [d1, d2] }
  | _ => none }
def CheckPausesWrongFalsely : Prop := checkPausesRow.holds Try.pinned (OpenSpec.ofChange checkPausesWrong)

/-- 'herdlaw17.CheckOver': WHATEVER THE INPUT: true; the input reads as it did. -/
def checkOverSpec : ChangeSpec := { name := "checkOver", fn := fun _ => fun
  | [d1, d2, d3] => { results := [.lit (.bool true)], args := [d1, d2, d3] }
  | _ => none }
def checkOverRow : OpenClaim := { program := "ytpneohekghpkbaa", sum := "9a1a8929274f7f0268de1b1378925dbb50349d3c047b94be438f7b6519552057", func := "herd/herdlaw17.CheckOver", spec := "checkOver", unfollowed := true, recurses := true, apart := false }
def CheckOverSaid : Prop := checkOverRow.holds Try.pinned (OpenSpec.ofChange checkOverSpec)

/-- ITS FALSE NEIGHBOUR: 'it returns false'. Refute it at one input. -/
def checkOverWrong : ChangeSpec := { name := "checkOver", fn := fun _ => fun
  | [d1, d2, d3] => { results := [.lit (.bool false)], args := [d1, d2, d3] }
  | _ => none }
def CheckOverWrongFalsely : Prop := checkOverRow.holds Try.pinned (OpenSpec.ofChange checkOverWrong)

/- THE SECOND FORM. 'bulk': how many values and letters a reading holds, each counted each time it is reached (what is shared counts as often as it is met; a slice's spare places count too). A statement '..UptoSaid' is the law's where the arguments, and the package variables that the reading takes, are together of bulk at most 1048576: NARROWER than '..Said'. Prove '..Said' where nothing that the law and all that it calls make is longer than what came in: it says more and counts as full. Else prove '..UptoSaid'. A law counts once. -/
mutual
def uptoBulk {H : Type} : DataW H → Nat
  | .lit (.string bytes) => bytes.length + 1
  | .lit _ => 1
  | .nil => 1
  | .ptr d => uptoBulk d + 1
  | .slice elems spare => uptoBulkAll elems + uptoBulkAll spare + 1
  | .agg parts => uptoBulkAll parts + 1
  | .iface _ d => uptoBulk d + 1
  | .map entries => uptoBulkEntries entries + 1
  | .held _ => 1
def uptoBulkAll {H : Type} : List (DataW H) → Nat
  | [] => 0
  | d :: r => uptoBulk d + uptoBulkAll r
def uptoBulkEntries {H : Type} : List (Lit × DataW H) → Nat
  | [] => 0
  | x :: r => uptoBulkEntry x + uptoBulkEntries r
def uptoBulkEntry {H : Type} : Lit × DataW H → Nat
  | (.string bytes, d) => bytes.length + uptoBulk d + 1
  | (_, d) => uptoBulk d + 1
 end
def uptoSmall : (H : Type) → List (DataW H) → Bool := fun _ ds => decide (uptoBulkAll ds ≤ 1048576)
def OpenSpec.upto (s : _root_.Go.ChangeSpec) : _root_.Go.OpenSpec := { _root_.Go.OpenSpec.ofChange s with cond := some uptoSmall }

/-- 'herdlaw17.CheckProgress', WHERE WHAT IT READS IS OF BULK AT MOST 1048576: true; the input reads as it did. -/
def checkProgressUptoRow : OpenClaim := { program := "ytpneohekghpkbaa", sum := "9a1a8929274f7f0268de1b1378925dbb50349d3c047b94be438f7b6519552057", func := "herd/herdlaw17.CheckProgress", spec := "checkProgress", unfollowed := true, recurses := true, apart := false, narrowed := true }
def CheckProgressUptoSaid : Prop := checkProgressUptoRow.holds Try.pinned (OpenSpec.upto checkProgressSpec)

/-- 'herdlaw17.CheckPauses', WHERE WHAT IT READS IS OF BULK AT MOST 1048576: true; the input reads as it did. -/
def checkPausesUptoRow : OpenClaim := { program := "ytpneohekghpkbaa", sum := "9a1a8929274f7f0268de1b1378925dbb50349d3c047b94be438f7b6519552057", func := "herd/herdlaw17.CheckPauses", spec := "checkPauses", unfollowed := true, recurses := true, apart := false, narrowed := true }
def CheckPausesUptoSaid : Prop := checkPausesUptoRow.holds Try.pinned (OpenSpec.upto checkPausesSpec)

/-- 'herdlaw17.CheckOver', WHERE WHAT IT READS IS OF BULK AT MOST 1048576: true; the input reads as it did. -/
def checkOverUptoRow : OpenClaim := { program := "ytpneohekghpkbaa", sum := "9a1a8929274f7f0268de1b1378925dbb50349d3c047b94be438f7b6519552057", func := "herd/herdlaw17.CheckOver", spec := "checkOver", unfollowed := true, recurses := true, apart := false, narrowed := true }
def CheckOverUptoSaid : Prop := checkOverUptoRow.holds Try.pinned (OpenSpec.upto checkOverSpec)

end Rows
end Go.Proofs.Ytpneohekghpkbaa
