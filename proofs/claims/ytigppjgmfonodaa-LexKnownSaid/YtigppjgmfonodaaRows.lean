/-
  No cell of these rows narrows 'for every input' (looked for: loops, veiled, ifaces, maps, wideKeys, modest, calm, conditions, laid).
  DERIVED. THE GIVEN ROWS OF THIS SEAT. 7 by the template 'for every input the law returns true; each argument reads behind the call as it read before'; 0 by the template 'total and deterministic' (their statements: YtigppjgmfonodaaTotals.lean).
  GIVEN WITH THE SEED: the statements are not yours to turn. If you find one false, say at which input.
  Laid BY PROGRAM, IN A SANDBOX (cutbox-rows.mjs): the forced cells as the released guide's own fill.sh prints them over the translation 3926314d68e6bdf3… (all of the seat's roots in one cut). By AI agents, Wed Nov 11 2026. No macro, syntax, notation, axiom, sorry.
-/
import Derived.Test.YtigppjgmfonodaaChecked
import GoSem.Claim
import GoSem.ClaimJoined
import GoSem.ClaimMapViews
import Derived.JoinedTies
import Derived.KernelRfl
namespace Go.Proofs.Ytigppjgmfonodaa
/- THE CELL 'sum', in the pinned program and in every row, IS THE sha256 OF THE DUMP (.gsa) THAT YtigppjgmfonodaaProg.lean LOADS. Nothing in Lean hashes anything: it is a label: what it is worth is what the hold of that sum in a sandbox is worth. -/
noncomputable def Try.pinned : Pinned := { name := "ytigppjgmfonodaa", sum := "3926314d68e6bdf3b6080bcb697434ad6ecb2c4d3caa12161860a7a83332bcdf", checked := Try.checked }
namespace Rows
def none {H : Type} : Left H := { results := [], args := [] }

/-- 'croupierlaw34.LexChecks': WHATEVER THE INPUT: true; the input reads as it did. -/
def lexChecksSpec : ChangeSpec := { name := "lexChecks", fn := fun _ => fun
  | [d1, d2, d3, d4] => { results := [.lit (.bool true)], args := [d1, d2, d3, d4] }
  | _ => none }
def lexChecksRow : OpenClaim := { program := "ytigppjgmfonodaa", sum := "3926314d68e6bdf3b6080bcb697434ad6ecb2c4d3caa12161860a7a83332bcdf", func := "croupier/croupierlaw34.LexChecks", spec := "lexChecks", inPlace := ["internal/bytealg.IndexByteString", "internal/abi.NoEscape", "internal/bytealg.MakeNoZero"], unfollowed := true, recurses := true, apart := false }
def LexChecksSaid : Prop := lexChecksRow.holds Try.pinned (OpenSpec.ofChange lexChecksSpec)

/-- ITS FALSE NEIGHBOUR: 'it returns false'. Refute it at one input. -/
def lexChecksWrong : ChangeSpec := { name := "lexChecks", fn := fun _ => fun
  | [d1, d2, d3, d4] => { results := [.lit (.bool false)], args := [d1, d2, d3, d4] }
  | _ => none }
def LexChecksWrongFalsely : Prop := lexChecksRow.holds Try.pinned (OpenSpec.ofChange lexChecksWrong)

/-- 'croupierlaw34.LexScans': WHATEVER THE INPUT: true; the input reads as it did. -/
def lexScansSpec : ChangeSpec := { name := "lexScans", fn := fun _ => fun
  | [d1, d2, d3] => { results := [.lit (.bool true)], args := [d1, d2, d3] }
  | _ => none }
def lexScansRow : OpenClaim := { program := "ytigppjgmfonodaa", sum := "3926314d68e6bdf3b6080bcb697434ad6ecb2c4d3caa12161860a7a83332bcdf", func := "croupier/croupierlaw34.LexScans", spec := "lexScans", inPlace := ["internal/bytealg.IndexByteString", "internal/abi.NoEscape", "internal/bytealg.MakeNoZero"], unfollowed := true, recurses := true, apart := false }
def LexScansSaid : Prop := lexScansRow.holds Try.pinned (OpenSpec.ofChange lexScansSpec)

/-- ITS FALSE NEIGHBOUR: 'it returns false'. Refute it at one input. -/
def lexScansWrong : ChangeSpec := { name := "lexScans", fn := fun _ => fun
  | [d1, d2, d3] => { results := [.lit (.bool false)], args := [d1, d2, d3] }
  | _ => none }
def LexScansWrongFalsely : Prop := lexScansRow.holds Try.pinned (OpenSpec.ofChange lexScansWrong)

/-- 'croupierlaw34.LexPrints': WHATEVER THE INPUT: true; the input reads as it did. -/
def lexPrintsSpec : ChangeSpec := { name := "lexPrints", fn := fun _ => fun
  | [d1, d2, d3, d4] => { results := [.lit (.bool true)], args := [d1, d2, d3, d4] }
  | _ => none }
def lexPrintsRow : OpenClaim := { program := "ytigppjgmfonodaa", sum := "3926314d68e6bdf3b6080bcb697434ad6ecb2c4d3caa12161860a7a83332bcdf", func := "croupier/croupierlaw34.LexPrints", spec := "lexPrints", inPlace := ["internal/abi.NoEscape", "internal/bytealg.MakeNoZero", "internal/bytealg.IndexByteString"], unfollowed := true, recurses := true, apart := false }
def LexPrintsSaid : Prop := lexPrintsRow.holds Try.pinned (OpenSpec.ofChange lexPrintsSpec)

/-- ITS FALSE NEIGHBOUR: 'it returns false'. Refute it at one input. -/
def lexPrintsWrong : ChangeSpec := { name := "lexPrints", fn := fun _ => fun
  | [d1, d2, d3, d4] => { results := [.lit (.bool false)], args := [d1, d2, d3, d4] }
  | _ => none }
def LexPrintsWrongFalsely : Prop := lexPrintsRow.holds Try.pinned (OpenSpec.ofChange lexPrintsWrong)

/-- 'croupierlaw34.LexBack': WHATEVER THE INPUT: true; the input reads as it did. -/
def lexBackSpec : ChangeSpec := { name := "lexBack", fn := fun _ => fun
  | [d1, d2] => { results := [.lit (.bool true)], args := [d1, d2] }
  | _ => none }
def lexBackRow : OpenClaim := { program := "ytigppjgmfonodaa", sum := "3926314d68e6bdf3b6080bcb697434ad6ecb2c4d3caa12161860a7a83332bcdf", func := "croupier/croupierlaw34.LexBack", spec := "lexBack", inPlace := ["internal/bytealg.IndexByteString", "internal/abi.NoEscape", "internal/bytealg.MakeNoZero"], unfollowed := true, recurses := true, apart := false }
def LexBackSaid : Prop := lexBackRow.holds Try.pinned (OpenSpec.ofChange lexBackSpec)

/-- ITS FALSE NEIGHBOUR: 'it returns false'. Refute it at one input. -/
def lexBackWrong : ChangeSpec := { name := "lexBack", fn := fun _ => fun
  | [d1, d2] => { results := [.lit (.bool false)], args := [d1, d2] }
  | _ => none }
def LexBackWrongFalsely : Prop := lexBackRow.holds Try.pinned (OpenSpec.ofChange lexBackWrong)

/-- 'croupierlaw34.LexStops': WHATEVER THE INPUT: true; the input reads as it did. -/
def lexStopsSpec : ChangeSpec := { name := "lexStops", fn := fun _ => fun
  | [d1, d2, d3] => { results := [.lit (.bool true)], args := [d1, d2, d3] }
  | _ => none }
def lexStopsRow : OpenClaim := { program := "ytigppjgmfonodaa", sum := "3926314d68e6bdf3b6080bcb697434ad6ecb2c4d3caa12161860a7a83332bcdf", func := "croupier/croupierlaw34.LexStops", spec := "lexStops", inPlace := ["internal/bytealg.IndexByteString", "internal/abi.NoEscape", "internal/bytealg.MakeNoZero"], unfollowed := true, recurses := true, apart := false }
def LexStopsSaid : Prop := lexStopsRow.holds Try.pinned (OpenSpec.ofChange lexStopsSpec)

/-- ITS FALSE NEIGHBOUR: 'it returns false'. Refute it at one input. -/
def lexStopsWrong : ChangeSpec := { name := "lexStops", fn := fun _ => fun
  | [d1, d2, d3] => { results := [.lit (.bool false)], args := [d1, d2, d3] }
  | _ => none }
def LexStopsWrongFalsely : Prop := lexStopsRow.holds Try.pinned (OpenSpec.ofChange lexStopsWrong)

/-- 'croupierlaw34.LexCovers': WHATEVER THE INPUT: true; the input reads as it did. -/
def lexCoversSpec : ChangeSpec := { name := "lexCovers", fn := fun _ => fun
  | [d] => { results := [.lit (.bool true)], args := [d] }
  | _ => none }
def lexCoversRow : OpenClaim := { program := "ytigppjgmfonodaa", sum := "3926314d68e6bdf3b6080bcb697434ad6ecb2c4d3caa12161860a7a83332bcdf", func := "croupier/croupierlaw34.LexCovers", spec := "lexCovers", inPlace := ["internal/bytealg.IndexByteString", "internal/abi.NoEscape", "internal/bytealg.MakeNoZero"], unfollowed := true, recurses := true, apart := false }
def LexCoversSaid : Prop := lexCoversRow.holds Try.pinned (OpenSpec.ofChange lexCoversSpec)

/-- ITS FALSE NEIGHBOUR: 'it returns false'. Refute it at one input. -/
def lexCoversWrong : ChangeSpec := { name := "lexCovers", fn := fun _ => fun
  | [d] => { results := [.lit (.bool false)], args := [d] }
  | _ => none }
def LexCoversWrongFalsely : Prop := lexCoversRow.holds Try.pinned (OpenSpec.ofChange lexCoversWrong)

/-- 'croupierlaw34.LexKnown': WHATEVER THE INPUT: true; the input reads as it did. -/
def lexKnownSpec : ChangeSpec := { name := "lexKnown", fn := fun _ => fun
  | [] => { results := [.lit (.bool true)], args := [] }
  | _ => none }
def lexKnownRow : OpenClaim := { program := "ytigppjgmfonodaa", sum := "3926314d68e6bdf3b6080bcb697434ad6ecb2c4d3caa12161860a7a83332bcdf", func := "croupier/croupierlaw34.LexKnown", spec := "lexKnown", inPlace := ["internal/bytealg.IndexByteString", "internal/abi.NoEscape", "internal/bytealg.MakeNoZero"], unfollowed := true, recurses := true, apart := false }
def LexKnownSaid : Prop := lexKnownRow.holds Try.pinned (OpenSpec.ofChange lexKnownSpec)

/-- ITS FALSE NEIGHBOUR: 'it returns false'. Refute it at one input. -/
def lexKnownWrong : ChangeSpec := { name := "lexKnown", fn := fun _ => fun
  | [] => { results := [.lit (.bool false)], args := [] }
  | _ => none }
def LexKnownWrongFalsely : Prop := lexKnownRow.holds Try.pinned (OpenSpec.ofChange lexKnownWrong)

/- THE SECOND FORM. 'bulk': how many values and letters a reading holds, each counted each time it is reached (what is shared counts as often as it is met; a slice's spare places count too). A statement '..UptoSaid' is the law's where the arguments, and the package variables that the reading takes, are together of bulk at most 1048576: NARROWER than '..Said'. Prove '..Said' where nothing that the law and all that it calls make is longer than what came in: it says more and counts as full. Else prove '..UptoSaid'. A law counts once. -/
mutual
def uptoBulk {H : Type} : DataW H → Nat
  | .lit (.string bytes) => bytes.length + 1
  | .lit _ => 1
  | .nil => 1
  | .ptr d => uptoBulk d + 1
  | .slice elems spare => uptoBulkAll elems + uptoBulkAll spare + 1
  | .agg parts => uptoBulkAll parts + 1
  | .iface _ d => uptoBulk d + 1
  | .map entries => uptoBulkEntries entries + 1
  | .held _ => 1
def uptoBulkAll {H : Type} : List (DataW H) → Nat
  | [] => 0
  | d :: r => uptoBulk d + uptoBulkAll r
def uptoBulkEntries {H : Type} : List (Lit × DataW H) → Nat
  | [] => 0
  | x :: r => uptoBulkEntry x + uptoBulkEntries r
def uptoBulkEntry {H : Type} : Lit × DataW H → Nat
  | (.string bytes, d) => bytes.length + uptoBulk d + 1
  | (_, d) => uptoBulk d + 1
 end
def uptoSmall : (H : Type) → List (DataW H) → Bool := fun _ ds => decide (uptoBulkAll ds ≤ 1048576)
def OpenSpec.upto (s : _root_.Go.ChangeSpec) : _root_.Go.OpenSpec := { _root_.Go.OpenSpec.ofChange s with cond := some uptoSmall }

/-- 'croupierlaw34.LexChecks', WHERE WHAT IT READS IS OF BULK AT MOST 1048576: true; the input reads as it did. -/
def lexChecksUptoRow : OpenClaim := { program := "ytigppjgmfonodaa", sum := "3926314d68e6bdf3b6080bcb697434ad6ecb2c4d3caa12161860a7a83332bcdf", func := "croupier/croupierlaw34.LexChecks", spec := "lexChecks", inPlace := ["internal/bytealg.IndexByteString", "internal/abi.NoEscape", "internal/bytealg.MakeNoZero"], unfollowed := true, recurses := true, apart := false, narrowed := true }
def LexChecksUptoSaid : Prop := lexChecksUptoRow.holds Try.pinned (OpenSpec.upto lexChecksSpec)

/-- 'croupierlaw34.LexScans', WHERE WHAT IT READS IS OF BULK AT MOST 1048576: true; the input reads as it did. -/
def lexScansUptoRow : OpenClaim := { program := "ytigppjgmfonodaa", sum := "3926314d68e6bdf3b6080bcb697434ad6ecb2c4d3caa12161860a7a83332bcdf", func := "croupier/croupierlaw34.LexScans", spec := "lexScans", inPlace := ["internal/bytealg.IndexByteString", "internal/abi.NoEscape", "internal/bytealg.MakeNoZero"], unfollowed := true, recurses := true, apart := false, narrowed := true }
def LexScansUptoSaid : Prop := lexScansUptoRow.holds Try.pinned (OpenSpec.upto lexScansSpec)

/-- 'croupierlaw34.LexPrints', WHERE WHAT IT READS IS OF BULK AT MOST 1048576: true; the input reads as it did. -/
def lexPrintsUptoRow : OpenClaim := { program := "ytigppjgmfonodaa", sum := "3926314d68e6bdf3b6080bcb697434ad6ecb2c4d3caa12161860a7a83332bcdf", func := "croupier/croupierlaw34.LexPrints", spec := "lexPrints", inPlace := ["internal/abi.NoEscape", "internal/bytealg.MakeNoZero", "internal/bytealg.IndexByteString"], unfollowed := true, recurses := true, apart := false, narrowed := true }
def LexPrintsUptoSaid : Prop := lexPrintsUptoRow.holds Try.pinned (OpenSpec.upto lexPrintsSpec)

/-- 'croupierlaw34.LexBack', WHERE WHAT IT READS IS OF BULK AT MOST 1048576: true; the input reads as it did. -/
def lexBackUptoRow : OpenClaim := { program := "ytigppjgmfonodaa", sum := "3926314d68e6bdf3b6080bcb697434ad6ecb2c4d3caa12161860a7a83332bcdf", func := "croupier/croupierlaw34.LexBack", spec := "lexBack", inPlace := ["internal/bytealg.IndexByteString", "internal/abi.NoEscape", "internal/bytealg.MakeNoZero"], unfollowed := true, recurses := true, apart := false, narrowed := true }
def LexBackUptoSaid : Prop := lexBackUptoRow.holds Try.pinned (OpenSpec.upto lexBackSpec)

/-- 'croupierlaw34.LexStops', WHERE WHAT IT READS IS OF BULK AT MOST 1048576: true; the input reads as it did. -/
def lexStopsUptoRow : OpenClaim := { program := "ytigppjgmfonodaa", sum := "3926314d68e6bdf3b6080bcb697434ad6ecb2c4d3caa12161860a7a83332bcdf", func := "croupier/croupierlaw34.LexStops", spec := "lexStops", inPlace := ["internal/bytealg.IndexByteString", "internal/abi.NoEscape", "internal/bytealg.MakeNoZero"], unfollowed := true, recurses := true, apart := false, narrowed := true }
def LexStopsUptoSaid : Prop := lexStopsUptoRow.holds Try.pinned (OpenSpec.upto lexStopsSpec)

/-- 'croupierlaw34.LexCovers', WHERE WHAT IT READS IS OF BULK AT MOST 1048576: true; the input reads as it did. -/
def lexCoversUptoRow : OpenClaim := { program := "ytigppjgmfonodaa", sum := "3926314d68e6bdf3b6080bcb697434ad6ecb2c4d3caa12161860a7a83332bcdf", func := "croupier/croupierlaw34.LexCovers", spec := "lexCovers", inPlace := ["internal/bytealg.IndexByteString", "internal/abi.NoEscape", "internal/bytealg.MakeNoZero"], unfollowed := true, recurses := true, apart := false, narrowed := true }
def LexCoversUptoSaid : Prop := lexCoversUptoRow.holds Try.pinned (OpenSpec.upto lexCoversSpec)

/-- 'croupierlaw34.LexKnown', WHERE WHAT IT READS IS OF BULK AT MOST 1048576: true; the input reads as it did. -/
def lexKnownUptoRow : OpenClaim := { program := "ytigppjgmfonodaa", sum := "3926314d68e6bdf3b6080bcb697434ad6ecb2c4d3caa12161860a7a83332bcdf", func := "croupier/croupierlaw34.LexKnown", spec := "lexKnown", inPlace := ["internal/bytealg.IndexByteString", "internal/abi.NoEscape", "internal/bytealg.MakeNoZero"], unfollowed := true, recurses := true, apart := false, narrowed := true }
def LexKnownUptoSaid : Prop := lexKnownUptoRow.holds Try.pinned (OpenSpec.upto lexKnownSpec)

end Rows
end Go.Proofs.Ytigppjgmfonodaa
