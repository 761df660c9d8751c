/-
  DERIVED. GIVEN WITH THE SEED: THE CARDS: each row of YtmdakmlhcgegcaaDoorRows.lean that lists a variable, with what it lists TIED to the program's text (the seventh form; the later family's looks); each row that meets fmt, with fmt's text TOLD by the authors' own Lean function (tested against real Go, not proved from fmt's source: count such statements apart). THE CARD IS WHAT COUNTS. Prove the row's statement (the work); the ties are given (YtmdakmlhcgegcaaDoorTie.lean); close each card by the builder's one call (the guide's Derived/Test/ToyasCard.lean, 'card_holds'). Laid BY PROGRAM, IN A SANDBOX (cutbox-door.mjs). By AI agents, Wed Nov 11 2026. No macro, syntax, notation, axiom, sorry.
-/
import Derived.Test.YtmdakmlhcgegcaaDoorRows
import GoSem.ClaimSeven
namespace Go.Proofs.YtmdakmlhcgegcaaDoor
namespace Rows

/-- THE TIED CARD OF 'herdlaw14.PhaseDue'. -/
def phaseDueCard : Claim7 := { stood := { row := phaseDueRow, standIns := [], harness := (true, "2172e38b9ce3ac34106e4f8a2abe9e4d8578a6a31f4bcc512a0d3120d1bab072"), looks := false }, kinds := [], alts := [], laidByText := true, laidKinds := [.data, .data], laidTests := true, laidLooks := .later }
def PhaseDueCardSaid : Prop := Claim7.holds Tryd.pinned (.plain (OpenSpec.ofChange phaseDueSpec)) phaseDueCard

/-- THE TIED CARD OF 'herdlaw14.PhaseKinds'. -/
def phaseKindsCard : Claim7 := { stood := { row := phaseKindsRow, standIns := [], harness := (true, "2172e38b9ce3ac34106e4f8a2abe9e4d8578a6a31f4bcc512a0d3120d1bab072"), looks := false }, kinds := [], alts := [], laidByText := true, laidKinds := [.data, .data], laidTests := true, laidLooks := .later }
def PhaseKindsCardSaid : Prop := Claim7.holds Tryd.pinned (.plain (OpenSpec.ofChange phaseKindsSpec)) phaseKindsCard

/-- THE TIED CARD OF 'herdlaw14.PhasePath'. -/
def phasePathCard : Claim7 := { stood := { row := phasePathRow, standIns := [], harness := (true, "2172e38b9ce3ac34106e4f8a2abe9e4d8578a6a31f4bcc512a0d3120d1bab072"), looks := false }, kinds := [], alts := [], laidByText := true, laidKinds := [.data, .data], laidTests := true, laidLooks := .later }
def PhasePathCardSaid : Prop := Claim7.holds Tryd.pinned (.plain (OpenSpec.ofChange phasePathSpec)) phasePathCard

/-- THE TIED CARD OF 'herdlaw14.PhaseFind'. -/
def phaseFindCard : Claim7 := { stood := { row := phaseFindRow, standIns := [], harness := (true, "2172e38b9ce3ac34106e4f8a2abe9e4d8578a6a31f4bcc512a0d3120d1bab072"), looks := false }, kinds := [], alts := [], laidByText := true, laidKinds := [.data, .data], laidTests := true, laidLooks := .later }
def PhaseFindCardSaid : Prop := Claim7.holds Tryd.pinned (.plain (OpenSpec.ofChange phaseFindSpec)) phaseFindCard

/-- THE SECOND FORM's CARD OF 'herdlaw14.PhaseDue'. -/
def phaseDueUptoCard : Claim7 := { stood := { row := phaseDueUptoRow, standIns := [], harness := (true, "2172e38b9ce3ac34106e4f8a2abe9e4d8578a6a31f4bcc512a0d3120d1bab072"), looks := false }, kinds := [], alts := [], laidByText := true, laidKinds := [.data, .data], laidTests := true, laidLooks := .later }
def PhaseDueUptoCardSaid : Prop := Claim7.holds Tryd.pinned (.plain (OpenSpec.upto phaseDueSpec)) phaseDueUptoCard

/-- THE SECOND FORM's CARD OF 'herdlaw14.PhaseKinds'. -/
def phaseKindsUptoCard : Claim7 := { stood := { row := phaseKindsUptoRow, standIns := [], harness := (true, "2172e38b9ce3ac34106e4f8a2abe9e4d8578a6a31f4bcc512a0d3120d1bab072"), looks := false }, kinds := [], alts := [], laidByText := true, laidKinds := [.data, .data], laidTests := true, laidLooks := .later }
def PhaseKindsUptoCardSaid : Prop := Claim7.holds Tryd.pinned (.plain (OpenSpec.upto phaseKindsSpec)) phaseKindsUptoCard

/-- THE SECOND FORM's CARD OF 'herdlaw14.PhasePath'. -/
def phasePathUptoCard : Claim7 := { stood := { row := phasePathUptoRow, standIns := [], harness := (true, "2172e38b9ce3ac34106e4f8a2abe9e4d8578a6a31f4bcc512a0d3120d1bab072"), looks := false }, kinds := [], alts := [], laidByText := true, laidKinds := [.data, .data], laidTests := true, laidLooks := .later }
def PhasePathUptoCardSaid : Prop := Claim7.holds Tryd.pinned (.plain (OpenSpec.upto phasePathSpec)) phasePathUptoCard

/-- THE SECOND FORM's CARD OF 'herdlaw14.PhaseFind'. -/
def phaseFindUptoCard : Claim7 := { stood := { row := phaseFindUptoRow, standIns := [], harness := (true, "2172e38b9ce3ac34106e4f8a2abe9e4d8578a6a31f4bcc512a0d3120d1bab072"), looks := false }, kinds := [], alts := [], laidByText := true, laidKinds := [.data, .data], laidTests := true, laidLooks := .later }
def PhaseFindUptoCardSaid : Prop := Claim7.holds Tryd.pinned (.plain (OpenSpec.upto phaseFindSpec)) phaseFindUptoCard
end Rows
end Go.Proofs.YtmdakmlhcgegcaaDoor
