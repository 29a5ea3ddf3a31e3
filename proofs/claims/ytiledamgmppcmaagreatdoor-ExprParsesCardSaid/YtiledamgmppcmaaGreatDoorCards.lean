/-
  DERIVED. GIVEN WITH THE SEED: THE CARDS: each row of YtiledamgmppcmaaGreatDoorRows.lean that lists a variable, with what it lists TIED to the program's text (the seventh form; the later family's looks); each row that meets fmt, with fmt's text TOLD by the authors' own Lean function (tested against real Go, not proved from fmt's source: count such statements apart). THE CARD IS WHAT COUNTS. Prove the row's statement (the work); the ties are given (YtiledamgmppcmaaGreatDoorTie.lean); close each card by the builder's one call (the guide's Derived/Test/ToyasCard.lean, 'card_holds'). Laid BY PROGRAM, IN A SANDBOX (cutbox-door.mjs). By AI agents, Wed Nov 11 2026. No macro, syntax, notation, axiom, sorry.
-/
import Derived.Test.YtiledamgmppcmaaGreatDoorRows
import GoSem.ClaimSeven
namespace Go.Proofs.YtiledamgmppcmaaGreatDoor
namespace Rows

/-- THE TIED CARD OF 'croupierlaw35.ExprChecks'. -/
def exprChecksCard : Claim7 := { stood := { row := exprChecksRow, standIns := [], harness := (true, "5cdb125a6d82f74d423e2e33b7f4ca6a216abe6d7a1760b55ccddbb56a64daf1"), looks := true }, kinds := [], alts := [], laidByText := true, laidKinds := [.data, .data, .data, .sentinel, .sentinel], laidTests := true, laidLooks := .later }
def ExprChecksCardSaid : Prop := Claim7.holds Tryz.pinned (.plain (OpenSpec.ofChange exprChecksSpec)) exprChecksCard

/-- THE TIED CARD OF 'croupierlaw35.ExprParses'. -/
def exprParsesCard : Claim7 := { stood := { row := exprParsesRow, standIns := [], harness := (true, "5cdb125a6d82f74d423e2e33b7f4ca6a216abe6d7a1760b55ccddbb56a64daf1"), looks := true }, kinds := [], alts := [], laidByText := true, laidKinds := [.data, .data, .data, .sentinel, .sentinel], laidTests := true, laidLooks := .later }
def ExprParsesCardSaid : Prop := Claim7.holds Tryz.pinned (.plain (OpenSpec.ofChange exprParsesSpec)) exprParsesCard

/-- THE TIED CARD OF 'croupierlaw35.ExprLong'. -/
def exprLongCard : Claim7 := { stood := { row := exprLongRow, standIns := [], harness := (true, "5cdb125a6d82f74d423e2e33b7f4ca6a216abe6d7a1760b55ccddbb56a64daf1"), looks := true }, kinds := [], alts := [], laidByText := true, laidKinds := [.data, .data, .data, .sentinel, .sentinel], laidTests := true, laidLooks := .later }
def ExprLongCardSaid : Prop := Claim7.holds Tryz.pinned (.plain (OpenSpec.ofChange exprLongSpec)) exprLongCard

/-- THE TIED CARD OF 'croupierlaw35.ExprEvals'. -/
def exprEvalsCard : Claim7 := { stood := { row := exprEvalsRow, standIns := [], harness := (true, "5cdb125a6d82f74d423e2e33b7f4ca6a216abe6d7a1760b55ccddbb56a64daf1"), looks := true }, kinds := [], alts := [], laidByText := true, laidKinds := [.data, .data, .data, .sentinel, .sentinel], laidTests := true, laidLooks := .later }
def ExprEvalsCardSaid : Prop := Claim7.holds Tryz.pinned (.plain (OpenSpec.ofChange exprEvalsSpec)) exprEvalsCard

/-- THE TIED CARD OF 'croupierlaw35.ExprBack'. -/
def exprBackCard : Claim7 := { stood := { row := exprBackRow, standIns := [], harness := (true, "5cdb125a6d82f74d423e2e33b7f4ca6a216abe6d7a1760b55ccddbb56a64daf1"), looks := true }, kinds := [], alts := [], laidByText := true, laidKinds := [.data, .data, .data, .sentinel, .sentinel], laidTests := true, laidLooks := .later }
def ExprBackCardSaid : Prop := Claim7.holds Tryz.pinned (.plain (OpenSpec.ofChange exprBackSpec)) exprBackCard

/-- THE TIED CARD OF 'croupierlaw35.ExprFewest'. -/
def exprFewestCard : Claim7 := { stood := { row := exprFewestRow, standIns := [], harness := (true, "5cdb125a6d82f74d423e2e33b7f4ca6a216abe6d7a1760b55ccddbb56a64daf1"), looks := true }, kinds := [], alts := [], laidByText := true, laidKinds := [.data, .data, .data, .sentinel, .sentinel], laidTests := true, laidLooks := .later }
def ExprFewestCardSaid : Prop := Claim7.holds Tryz.pinned (.plain (OpenSpec.ofChange exprFewestSpec)) exprFewestCard

/-- THE TIED CARD OF 'croupierlaw35.ExprTruth'. -/
def exprTruthCard : Claim7 := { stood := { row := exprTruthRow, standIns := [], harness := (true, "5cdb125a6d82f74d423e2e33b7f4ca6a216abe6d7a1760b55ccddbb56a64daf1"), looks := true }, kinds := [], alts := [], laidByText := true, laidKinds := [.data, .data, .data, .sentinel, .sentinel], laidTests := true, laidLooks := .later }
def ExprTruthCardSaid : Prop := Claim7.holds Tryz.pinned (.plain (OpenSpec.ofChange exprTruthSpec)) exprTruthCard

/-- THE TIED CARD OF 'croupierlaw35.ExprIgnores'. -/
def exprIgnoresCard : Claim7 := { stood := { row := exprIgnoresRow, standIns := [], harness := (true, "5cdb125a6d82f74d423e2e33b7f4ca6a216abe6d7a1760b55ccddbb56a64daf1"), looks := true }, kinds := [], alts := [], laidByText := true, laidKinds := [.data, .data, .data, .sentinel, .sentinel], laidTests := true, laidLooks := .later }
def ExprIgnoresCardSaid : Prop := Claim7.holds Tryz.pinned (.plain (OpenSpec.ofChange exprIgnoresSpec)) exprIgnoresCard

/-- THE TIED CARD OF 'croupierlaw35.ExprKnown'. -/
def exprKnownCard : Claim7 := { stood := { row := exprKnownRow, standIns := [], harness := (true, "5cdb125a6d82f74d423e2e33b7f4ca6a216abe6d7a1760b55ccddbb56a64daf1"), looks := true }, kinds := [], alts := [], laidByText := true, laidKinds := [.data, .data, .data, .sentinel, .sentinel], laidTests := true, laidLooks := .later }
def ExprKnownCardSaid : Prop := Claim7.holds Tryz.pinned (.plain (OpenSpec.ofChange exprKnownSpec)) exprKnownCard

/-- THE TIED CARD OF 'croupierlaw35.ExprMeans'. -/
def exprMeansCard : Claim7 := { stood := { row := exprMeansRow, standIns := [], harness := (true, "5cdb125a6d82f74d423e2e33b7f4ca6a216abe6d7a1760b55ccddbb56a64daf1"), looks := true }, kinds := [], alts := [], laidByText := true, laidKinds := [.data, .data, .data, .sentinel, .sentinel], laidTests := true, laidLooks := .later }
def ExprMeansCardSaid : Prop := Claim7.holds Tryz.pinned (.plain (OpenSpec.ofChange exprMeansSpec)) exprMeansCard

/-- THE SECOND FORM's CARD OF 'croupierlaw35.ExprChecks'. -/
def exprChecksUptoCard : Claim7 := { stood := { row := exprChecksUptoRow, standIns := [], harness := (true, "5cdb125a6d82f74d423e2e33b7f4ca6a216abe6d7a1760b55ccddbb56a64daf1"), looks := true }, kinds := [], alts := [], laidByText := true, laidKinds := [.data, .data, .data, .sentinel, .sentinel], laidTests := true, laidLooks := .later }
def ExprChecksUptoCardSaid : Prop := Claim7.holds Tryz.pinned (.plain (OpenSpec.upto exprChecksSpec)) exprChecksUptoCard

/-- THE SECOND FORM's CARD OF 'croupierlaw35.ExprParses'. -/
def exprParsesUptoCard : Claim7 := { stood := { row := exprParsesUptoRow, standIns := [], harness := (true, "5cdb125a6d82f74d423e2e33b7f4ca6a216abe6d7a1760b55ccddbb56a64daf1"), looks := true }, kinds := [], alts := [], laidByText := true, laidKinds := [.data, .data, .data, .sentinel, .sentinel], laidTests := true, laidLooks := .later }
def ExprParsesUptoCardSaid : Prop := Claim7.holds Tryz.pinned (.plain (OpenSpec.upto exprParsesSpec)) exprParsesUptoCard

/-- THE SECOND FORM's CARD OF 'croupierlaw35.ExprLong'. -/
def exprLongUptoCard : Claim7 := { stood := { row := exprLongUptoRow, standIns := [], harness := (true, "5cdb125a6d82f74d423e2e33b7f4ca6a216abe6d7a1760b55ccddbb56a64daf1"), looks := true }, kinds := [], alts := [], laidByText := true, laidKinds := [.data, .data, .data, .sentinel, .sentinel], laidTests := true, laidLooks := .later }
def ExprLongUptoCardSaid : Prop := Claim7.holds Tryz.pinned (.plain (OpenSpec.upto exprLongSpec)) exprLongUptoCard

/-- THE SECOND FORM's CARD OF 'croupierlaw35.ExprEvals'. -/
def exprEvalsUptoCard : Claim7 := { stood := { row := exprEvalsUptoRow, standIns := [], harness := (true, "5cdb125a6d82f74d423e2e33b7f4ca6a216abe6d7a1760b55ccddbb56a64daf1"), looks := true }, kinds := [], alts := [], laidByText := true, laidKinds := [.data, .data, .data, .sentinel, .sentinel], laidTests := true, laidLooks := .later }
def ExprEvalsUptoCardSaid : Prop := Claim7.holds Tryz.pinned (.plain (OpenSpec.upto exprEvalsSpec)) exprEvalsUptoCard

/-- THE SECOND FORM's CARD OF 'croupierlaw35.ExprBack'. -/
def exprBackUptoCard : Claim7 := { stood := { row := exprBackUptoRow, standIns := [], harness := (true, "5cdb125a6d82f74d423e2e33b7f4ca6a216abe6d7a1760b55ccddbb56a64daf1"), looks := true }, kinds := [], alts := [], laidByText := true, laidKinds := [.data, .data, .data, .sentinel, .sentinel], laidTests := true, laidLooks := .later }
def ExprBackUptoCardSaid : Prop := Claim7.holds Tryz.pinned (.plain (OpenSpec.upto exprBackSpec)) exprBackUptoCard

/-- THE SECOND FORM's CARD OF 'croupierlaw35.ExprFewest'. -/
def exprFewestUptoCard : Claim7 := { stood := { row := exprFewestUptoRow, standIns := [], harness := (true, "5cdb125a6d82f74d423e2e33b7f4ca6a216abe6d7a1760b55ccddbb56a64daf1"), looks := true }, kinds := [], alts := [], laidByText := true, laidKinds := [.data, .data, .data, .sentinel, .sentinel], laidTests := true, laidLooks := .later }
def ExprFewestUptoCardSaid : Prop := Claim7.holds Tryz.pinned (.plain (OpenSpec.upto exprFewestSpec)) exprFewestUptoCard

/-- THE SECOND FORM's CARD OF 'croupierlaw35.ExprTruth'. -/
def exprTruthUptoCard : Claim7 := { stood := { row := exprTruthUptoRow, standIns := [], harness := (true, "5cdb125a6d82f74d423e2e33b7f4ca6a216abe6d7a1760b55ccddbb56a64daf1"), looks := true }, kinds := [], alts := [], laidByText := true, laidKinds := [.data, .data, .data, .sentinel, .sentinel], laidTests := true, laidLooks := .later }
def ExprTruthUptoCardSaid : Prop := Claim7.holds Tryz.pinned (.plain (OpenSpec.upto exprTruthSpec)) exprTruthUptoCard

/-- THE SECOND FORM's CARD OF 'croupierlaw35.ExprIgnores'. -/
def exprIgnoresUptoCard : Claim7 := { stood := { row := exprIgnoresUptoRow, standIns := [], harness := (true, "5cdb125a6d82f74d423e2e33b7f4ca6a216abe6d7a1760b55ccddbb56a64daf1"), looks := true }, kinds := [], alts := [], laidByText := true, laidKinds := [.data, .data, .data, .sentinel, .sentinel], laidTests := true, laidLooks := .later }
def ExprIgnoresUptoCardSaid : Prop := Claim7.holds Tryz.pinned (.plain (OpenSpec.upto exprIgnoresSpec)) exprIgnoresUptoCard

/-- THE SECOND FORM's CARD OF 'croupierlaw35.ExprKnown'. -/
def exprKnownUptoCard : Claim7 := { stood := { row := exprKnownUptoRow, standIns := [], harness := (true, "5cdb125a6d82f74d423e2e33b7f4ca6a216abe6d7a1760b55ccddbb56a64daf1"), looks := true }, kinds := [], alts := [], laidByText := true, laidKinds := [.data, .data, .data, .sentinel, .sentinel], laidTests := true, laidLooks := .later }
def ExprKnownUptoCardSaid : Prop := Claim7.holds Tryz.pinned (.plain (OpenSpec.upto exprKnownSpec)) exprKnownUptoCard

/-- THE SECOND FORM's CARD OF 'croupierlaw35.ExprMeans'. -/
def exprMeansUptoCard : Claim7 := { stood := { row := exprMeansUptoRow, standIns := [], harness := (true, "5cdb125a6d82f74d423e2e33b7f4ca6a216abe6d7a1760b55ccddbb56a64daf1"), looks := true }, kinds := [], alts := [], laidByText := true, laidKinds := [.data, .data, .data, .sentinel, .sentinel], laidTests := true, laidLooks := .later }
def ExprMeansUptoCardSaid : Prop := Claim7.holds Tryz.pinned (.plain (OpenSpec.upto exprMeansSpec)) exprMeansUptoCard
end Rows
end Go.Proofs.YtiledamgmppcmaaGreatDoor
