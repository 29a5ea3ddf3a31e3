/-
  DERIVED. GIVEN WITH THE SEED: THE CARDS: each row of YtjagmmmcibdibaaGreatDoorRows.lean that lists a variable, with what it lists TIED to the program's text (the seventh form; the later family's looks); each row that meets fmt, with fmt's text TOLD by the authors' own Lean function (tested against real Go, not proved from fmt's source: count such statements apart). THE CARD IS WHAT COUNTS. Prove the row's statement (the work); the ties are given (YtjagmmmcibdibaaGreatDoorTie.lean); close each card by the builder's one call (the guide's Derived/Test/ToyasCard.lean, 'card_holds'). Laid BY PROGRAM, IN A SANDBOX (cutbox-door.mjs). By AI agents, Wed Nov 11 2026. No macro, syntax, notation, axiom, sorry.
-/
import Derived.Test.YtjagmmmcibdibaaGreatDoorRows
import GoSem.ClaimSeven
namespace Go.Proofs.YtjagmmmcibdibaaGreatDoor
namespace Rows

/-- THE TIED CARD OF 'croupierlaw35.ExprEvals'. -/
def exprEvalsCard : Claim7 := { stood := { row := exprEvalsRow, standIns := [], harness := (true, "8ecc8c01cc24e7cad2ccf0128a8469ee18c847b9c72dcaeb65f67e5524872fb0"), looks := true }, kinds := [], alts := [], laidByText := true, laidKinds := [.data, .data, .data, .sentinel, .sentinel], laidTests := true, laidLooks := .later }
def ExprEvalsCardSaid : Prop := Claim7.holds Tryz.pinned (.plain (OpenSpec.ofChange exprEvalsSpec)) exprEvalsCard

/-- THE TIED CARD OF 'croupierlaw35.ExprTruth'. -/
def exprTruthCard : Claim7 := { stood := { row := exprTruthRow, standIns := [], harness := (true, "8ecc8c01cc24e7cad2ccf0128a8469ee18c847b9c72dcaeb65f67e5524872fb0"), looks := true }, kinds := [], alts := [], laidByText := true, laidKinds := [.data, .data, .data, .sentinel, .sentinel], laidTests := true, laidLooks := .later }
def ExprTruthCardSaid : Prop := Claim7.holds Tryz.pinned (.plain (OpenSpec.ofChange exprTruthSpec)) exprTruthCard

/-- THE TIED CARD OF 'croupierlaw35.ExprIgnores'. -/
def exprIgnoresCard : Claim7 := { stood := { row := exprIgnoresRow, standIns := [], harness := (true, "8ecc8c01cc24e7cad2ccf0128a8469ee18c847b9c72dcaeb65f67e5524872fb0"), looks := true }, kinds := [], alts := [], laidByText := true, laidKinds := [.data, .data, .data, .sentinel, .sentinel], laidTests := true, laidLooks := .later }
def ExprIgnoresCardSaid : Prop := Claim7.holds Tryz.pinned (.plain (OpenSpec.ofChange exprIgnoresSpec)) exprIgnoresCard

/-- THE TIED CARD OF 'croupierlaw35.ExprMeans'. -/
def exprMeansCard : Claim7 := { stood := { row := exprMeansRow, standIns := [], harness := (true, "8ecc8c01cc24e7cad2ccf0128a8469ee18c847b9c72dcaeb65f67e5524872fb0"), looks := true }, kinds := [], alts := [], laidByText := true, laidKinds := [.data, .data, .data, .sentinel, .sentinel], laidTests := true, laidLooks := .later }
def ExprMeansCardSaid : Prop := Claim7.holds Tryz.pinned (.plain (OpenSpec.ofChange exprMeansSpec)) exprMeansCard

/-- THE SECOND FORM's CARD OF 'croupierlaw35.ExprEvals'. -/
def exprEvalsUptoCard : Claim7 := { stood := { row := exprEvalsUptoRow, standIns := [], harness := (true, "8ecc8c01cc24e7cad2ccf0128a8469ee18c847b9c72dcaeb65f67e5524872fb0"), looks := true }, kinds := [], alts := [], laidByText := true, laidKinds := [.data, .data, .data, .sentinel, .sentinel], laidTests := true, laidLooks := .later }
def ExprEvalsUptoCardSaid : Prop := Claim7.holds Tryz.pinned (.plain (OpenSpec.upto exprEvalsSpec)) exprEvalsUptoCard

/-- THE SECOND FORM's CARD OF 'croupierlaw35.ExprTruth'. -/
def exprTruthUptoCard : Claim7 := { stood := { row := exprTruthUptoRow, standIns := [], harness := (true, "8ecc8c01cc24e7cad2ccf0128a8469ee18c847b9c72dcaeb65f67e5524872fb0"), looks := true }, kinds := [], alts := [], laidByText := true, laidKinds := [.data, .data, .data, .sentinel, .sentinel], laidTests := true, laidLooks := .later }
def ExprTruthUptoCardSaid : Prop := Claim7.holds Tryz.pinned (.plain (OpenSpec.upto exprTruthSpec)) exprTruthUptoCard

/-- THE SECOND FORM's CARD OF 'croupierlaw35.ExprIgnores'. -/
def exprIgnoresUptoCard : Claim7 := { stood := { row := exprIgnoresUptoRow, standIns := [], harness := (true, "8ecc8c01cc24e7cad2ccf0128a8469ee18c847b9c72dcaeb65f67e5524872fb0"), looks := true }, kinds := [], alts := [], laidByText := true, laidKinds := [.data, .data, .data, .sentinel, .sentinel], laidTests := true, laidLooks := .later }
def ExprIgnoresUptoCardSaid : Prop := Claim7.holds Tryz.pinned (.plain (OpenSpec.upto exprIgnoresSpec)) exprIgnoresUptoCard

/-- THE SECOND FORM's CARD OF 'croupierlaw35.ExprMeans'. -/
def exprMeansUptoCard : Claim7 := { stood := { row := exprMeansUptoRow, standIns := [], harness := (true, "8ecc8c01cc24e7cad2ccf0128a8469ee18c847b9c72dcaeb65f67e5524872fb0"), looks := true }, kinds := [], alts := [], laidByText := true, laidKinds := [.data, .data, .data, .sentinel, .sentinel], laidTests := true, laidLooks := .later }
def ExprMeansUptoCardSaid : Prop := Claim7.holds Tryz.pinned (.plain (OpenSpec.upto exprMeansSpec)) exprMeansUptoCard
end Rows
end Go.Proofs.YtjagmmmcibdibaaGreatDoor
