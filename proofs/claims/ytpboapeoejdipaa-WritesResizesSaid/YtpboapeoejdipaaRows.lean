/-
  No cell of these rows narrows 'for every input' (looked for: loops, veiled, ifaces, maps, wideKeys, modest, calm, conditions, laid).
  DERIVED. THE GIVEN ROWS OF THIS SEAT. 8 by the template 'for every input the law returns true; each argument reads behind the call as it read before'; 0 by the template 'total and deterministic' (their statements: YtpboapeoejdipaaTotals.lean).
  GIVEN WITH THE SEED: the statements are not yours to turn. If you find one false, say at which input.
  Laid BY PROGRAM, IN A SANDBOX (cutbox-rows.mjs): the forced cells as the released guide's own fill.sh prints them over the translation 8b11bca9324f4b5a… (all of the seat's roots in one cut). By AI agents, Wed Nov 11 2026. No macro, syntax, notation, axiom, sorry.
-/
import Derived.Test.YtpboapeoejdipaaChecked
import GoSem.Claim
import GoSem.ClaimJoined
import GoSem.ClaimMapViews
import Derived.JoinedTies
import Derived.KernelRfl
namespace Go.Proofs.Ytpboapeoejdipaa
/- THE CELL 'sum', in the pinned program and in every row, IS THE sha256 OF THE DUMP (.gsa) THAT YtpboapeoejdipaaProg.lean LOADS. Nothing in Lean hashes anything: it is a label: what it is worth is what the hold of that sum in a sandbox is worth. -/
noncomputable def Try.pinned : Pinned := { name := "ytpboapeoejdipaa", sum := "8b11bca9324f4b5a18aaf84b4ca8524b4302a2405b79cfa4230627f7bcaa61ef", checked := Try.checked }
namespace Rows
def none {H : Type} : Left H := { results := [], args := [] }

/-- 'slipsheetlaw.WritesWrites': WHATEVER THE INPUT: true; the input reads as it did. -/
def writesWritesSpec : ChangeSpec := { name := "writesWrites", fn := fun _ => fun
  | [d1, d2, d3] => { results := [.lit (.bool true)], args := [d1, d2, d3] }
  | _ => none }
def writesWritesRow : OpenClaim := { program := "ytpboapeoejdipaa", sum := "8b11bca9324f4b5a18aaf84b4ca8524b4302a2405b79cfa4230627f7bcaa61ef", func := "slipsheet/slipsheetlaw.WritesWrites", spec := "writesWrites", inPlace := ["slices.overlaps[int]"], unfollowed := true, recurses := true, apart := false }
def WritesWritesSaid : Prop := writesWritesRow.holds Try.pinned (OpenSpec.ofChange writesWritesSpec)

/-- ITS FALSE NEIGHBOUR: 'it returns false'. Refute it at one input. -/
def writesWritesWrong : ChangeSpec := { name := "writesWrites", fn := fun _ => fun
  | [d1, d2, d3] => { results := [.lit (.bool false)], args := [d1, d2, d3] }
  | _ => none }
def WritesWritesWrongFalsely : Prop := writesWritesRow.holds Try.pinned (OpenSpec.ofChange writesWritesWrong)

/-- 'slipsheetlaw.WritesSets': WHATEVER THE INPUT: true; the input reads as it did. -/
def writesSetsSpec : ChangeSpec := { name := "writesSets", fn := fun _ => fun
  | [d1, d2] => { results := [.lit (.bool true)], args := [d1, d2] }
  | _ => none }
def writesSetsRow : OpenClaim := { program := "ytpboapeoejdipaa", sum := "8b11bca9324f4b5a18aaf84b4ca8524b4302a2405b79cfa4230627f7bcaa61ef", func := "slipsheet/slipsheetlaw.WritesSets", spec := "writesSets", inPlace := ["slices.overlaps[int]"], unfollowed := true, recurses := true, apart := false }
def WritesSetsSaid : Prop := writesSetsRow.holds Try.pinned (OpenSpec.ofChange writesSetsSpec)

/-- ITS FALSE NEIGHBOUR: 'it returns false'. Refute it at one input. -/
def writesSetsWrong : ChangeSpec := { name := "writesSets", fn := fun _ => fun
  | [d1, d2] => { results := [.lit (.bool false)], args := [d1, d2] }
  | _ => none }
def WritesSetsWrongFalsely : Prop := writesSetsRow.holds Try.pinned (OpenSpec.ofChange writesSetsWrong)

/-- 'slipsheetlaw.WritesResizes': WHATEVER THE INPUT: true; the input reads as it did. -/
def writesResizesSpec : ChangeSpec := { name := "writesResizes", fn := fun _ => fun
  | [d1, d2] => { results := [.lit (.bool true)], args := [d1, d2] }
  | _ => none }
def writesResizesRow : OpenClaim := { program := "ytpboapeoejdipaa", sum := "8b11bca9324f4b5a18aaf84b4ca8524b4302a2405b79cfa4230627f7bcaa61ef", func := "slipsheet/slipsheetlaw.WritesResizes", spec := "writesResizes", inPlace := ["slices.overlaps[int]"], unfollowed := true, recurses := true, apart := false }
def WritesResizesSaid : Prop := writesResizesRow.holds Try.pinned (OpenSpec.ofChange writesResizesSpec)

/-- ITS FALSE NEIGHBOUR: 'it returns false'. Refute it at one input. -/
def writesResizesWrong : ChangeSpec := { name := "writesResizes", fn := fun _ => fun
  | [d1, d2] => { results := [.lit (.bool false)], args := [d1, d2] }
  | _ => none }
def WritesResizesWrongFalsely : Prop := writesResizesRow.holds Try.pinned (OpenSpec.ofChange writesResizesWrong)

/-- 'slipsheetlaw.WritesRight': WHATEVER THE INPUT: true; the input reads as it did. -/
def writesRightSpec : ChangeSpec := { name := "writesRight", fn := fun _ => fun
  | [d1, d2, d3, d4] => { results := [.lit (.bool true)], args := [d1, d2, d3, d4] }
  | _ => none }
def writesRightRow : OpenClaim := { program := "ytpboapeoejdipaa", sum := "8b11bca9324f4b5a18aaf84b4ca8524b4302a2405b79cfa4230627f7bcaa61ef", func := "slipsheet/slipsheetlaw.WritesRight", spec := "writesRight", inPlace := ["slices.overlaps[int]"], unfollowed := true, recurses := true, apart := false }
def WritesRightSaid : Prop := writesRightRow.holds Try.pinned (OpenSpec.ofChange writesRightSpec)

/-- ITS FALSE NEIGHBOUR: 'it returns false'. Refute it at one input. -/
def writesRightWrong : ChangeSpec := { name := "writesRight", fn := fun _ => fun
  | [d1, d2, d3, d4] => { results := [.lit (.bool false)], args := [d1, d2, d3, d4] }
  | _ => none }
def WritesRightWrongFalsely : Prop := writesRightRow.holds Try.pinned (OpenSpec.ofChange writesRightWrong)

/-- 'slipsheetlaw.WritesTrue': WHATEVER THE INPUT: true; the input reads as it did. -/
def writesTrueSpec : ChangeSpec := { name := "writesTrue", fn := fun _ => fun
  | [d1, d2, d3, d4] => { results := [.lit (.bool true)], args := [d1, d2, d3, d4] }
  | _ => none }
def writesTrueRow : OpenClaim := { program := "ytpboapeoejdipaa", sum := "8b11bca9324f4b5a18aaf84b4ca8524b4302a2405b79cfa4230627f7bcaa61ef", func := "slipsheet/slipsheetlaw.WritesTrue", spec := "writesTrue", inPlace := ["internal/abi.NoEscape", "internal/bytealg.MakeNoZero", "slices.overlaps[int]"], unfollowed := true, recurses := true, apart := false }
def WritesTrueSaid : Prop := writesTrueRow.holds Try.pinned (OpenSpec.ofChange writesTrueSpec)

/-- ITS FALSE NEIGHBOUR: 'it returns false'. Refute it at one input. -/
def writesTrueWrong : ChangeSpec := { name := "writesTrue", fn := fun _ => fun
  | [d1, d2, d3, d4] => { results := [.lit (.bool false)], args := [d1, d2, d3, d4] }
  | _ => none }
def WritesTrueWrongFalsely : Prop := writesTrueRow.holds Try.pinned (OpenSpec.ofChange writesTrueWrong)

/-- 'slipsheetlaw.WritesInPlace': WHATEVER THE INPUT: true; the input reads as it did. -/
def writesInPlaceSpec : ChangeSpec := { name := "writesInPlace", fn := fun _ => fun
  | [d1, d2, d3, d4] => { results := [.lit (.bool true)], args := [d1, d2, d3, d4] }
  | _ => none }
def writesInPlaceRow : OpenClaim := { program := "ytpboapeoejdipaa", sum := "8b11bca9324f4b5a18aaf84b4ca8524b4302a2405b79cfa4230627f7bcaa61ef", func := "slipsheet/slipsheetlaw.WritesInPlace", spec := "writesInPlace", inPlace := ["slices.overlaps[int]"], unfollowed := true, recurses := true, apart := false }
def WritesInPlaceSaid : Prop := writesInPlaceRow.holds Try.pinned (OpenSpec.ofChange writesInPlaceSpec)

/-- ITS FALSE NEIGHBOUR: 'it returns false'. Refute it at one input. -/
def writesInPlaceWrong : ChangeSpec := { name := "writesInPlace", fn := fun _ => fun
  | [d1, d2, d3, d4] => { results := [.lit (.bool false)], args := [d1, d2, d3, d4] }
  | _ => none }
def WritesInPlaceWrongFalsely : Prop := writesInPlaceRow.holds Try.pinned (OpenSpec.ofChange writesInPlaceWrong)

/-- 'slipsheetlaw.WritesOrder': WHATEVER THE INPUT: true; the input reads as it did. -/
def writesOrderSpec : ChangeSpec := { name := "writesOrder", fn := fun _ => fun
  | [d1, d2, d3, d4, d5] => { results := [.lit (.bool true)], args := [d1, d2, d3, d4, d5] }
  | _ => none }
def writesOrderRow : OpenClaim := { program := "ytpboapeoejdipaa", sum := "8b11bca9324f4b5a18aaf84b4ca8524b4302a2405b79cfa4230627f7bcaa61ef", func := "slipsheet/slipsheetlaw.WritesOrder", spec := "writesOrder", inPlace := ["slices.overlaps[int]", "internal/abi.NoEscape", "internal/bytealg.MakeNoZero"], unfollowed := true, recurses := true, apart := false }
def WritesOrderSaid : Prop := writesOrderRow.holds Try.pinned (OpenSpec.ofChange writesOrderSpec)

/-- ITS FALSE NEIGHBOUR: 'it returns false'. Refute it at one input. -/
def writesOrderWrong : ChangeSpec := { name := "writesOrder", fn := fun _ => fun
  | [d1, d2, d3, d4, d5] => { results := [.lit (.bool false)], args := [d1, d2, d3, d4, d5] }
  | _ => none }
def WritesOrderWrongFalsely : Prop := writesOrderRow.holds Try.pinned (OpenSpec.ofChange writesOrderWrong)

/-- 'slipsheetlaw.WritesPast': WHATEVER THE INPUT: true; the input reads as it did. -/
def writesPastSpec : ChangeSpec := { name := "writesPast", fn := fun _ => fun
  | [d1, d2, d3, d4, d5] => { results := [.lit (.bool true)], args := [d1, d2, d3, d4, d5] }
  | _ => none }
def writesPastRow : OpenClaim := { program := "ytpboapeoejdipaa", sum := "8b11bca9324f4b5a18aaf84b4ca8524b4302a2405b79cfa4230627f7bcaa61ef", func := "slipsheet/slipsheetlaw.WritesPast", spec := "writesPast", inPlace := ["internal/abi.NoEscape", "internal/bytealg.MakeNoZero", "slices.overlaps[int]"], unfollowed := true, recurses := true, apart := false }
def WritesPastSaid : Prop := writesPastRow.holds Try.pinned (OpenSpec.ofChange writesPastSpec)

/-- ITS FALSE NEIGHBOUR: 'it returns false'. Refute it at one input. -/
def writesPastWrong : ChangeSpec := { name := "writesPast", fn := fun _ => fun
  | [d1, d2, d3, d4, d5] => { results := [.lit (.bool false)], args := [d1, d2, d3, d4, d5] }
  | _ => none }
def WritesPastWrongFalsely : Prop := writesPastRow.holds Try.pinned (OpenSpec.ofChange writesPastWrong)

/- THE SECOND FORM. 'bulk': how many values and letters a reading holds, each counted each time it is reached (what is shared counts as often as it is met; a slice's spare places count too). A statement '..UptoSaid' is the law's where the arguments, and the package variables that the reading takes, are together of bulk at most 1048576: NARROWER than '..Said'. Prove '..Said' where nothing that the law and all that it calls make is longer than what came in: it says more and counts as full. Else prove '..UptoSaid'. A law counts once. -/
mutual
def uptoBulk {H : Type} : DataW H → Nat
  | .lit (.string bytes) => bytes.length + 1
  | .lit _ => 1
  | .nil => 1
  | .ptr d => uptoBulk d + 1
  | .slice elems spare => uptoBulkAll elems + uptoBulkAll spare + 1
  | .agg parts => uptoBulkAll parts + 1
  | .iface _ d => uptoBulk d + 1
  | .map entries => uptoBulkEntries entries + 1
  | .held _ => 1
def uptoBulkAll {H : Type} : List (DataW H) → Nat
  | [] => 0
  | d :: r => uptoBulk d + uptoBulkAll r
def uptoBulkEntries {H : Type} : List (Lit × DataW H) → Nat
  | [] => 0
  | x :: r => uptoBulkEntry x + uptoBulkEntries r
def uptoBulkEntry {H : Type} : Lit × DataW H → Nat
  | (.string bytes, d) => bytes.length + uptoBulk d + 1
  | (_, d) => uptoBulk d + 1
 end
def uptoSmall : (H : Type) → List (DataW H) → Bool := fun _ ds => decide (uptoBulkAll ds ≤ 1048576)
def OpenSpec.upto (s : _root_.Go.ChangeSpec) : _root_.Go.OpenSpec := { _root_.Go.OpenSpec.ofChange s with cond := some uptoSmall }

/-- 'slipsheetlaw.WritesWrites', WHERE WHAT IT READS IS OF BULK AT MOST 1048576: true; the input reads as it did. -/
def writesWritesUptoRow : OpenClaim := { program := "ytpboapeoejdipaa", sum := "8b11bca9324f4b5a18aaf84b4ca8524b4302a2405b79cfa4230627f7bcaa61ef", func := "slipsheet/slipsheetlaw.WritesWrites", spec := "writesWrites", inPlace := ["slices.overlaps[int]"], unfollowed := true, recurses := true, apart := false, narrowed := true }
def WritesWritesUptoSaid : Prop := writesWritesUptoRow.holds Try.pinned (OpenSpec.upto writesWritesSpec)

/-- 'slipsheetlaw.WritesSets', WHERE WHAT IT READS IS OF BULK AT MOST 1048576: true; the input reads as it did. -/
def writesSetsUptoRow : OpenClaim := { program := "ytpboapeoejdipaa", sum := "8b11bca9324f4b5a18aaf84b4ca8524b4302a2405b79cfa4230627f7bcaa61ef", func := "slipsheet/slipsheetlaw.WritesSets", spec := "writesSets", inPlace := ["slices.overlaps[int]"], unfollowed := true, recurses := true, apart := false, narrowed := true }
def WritesSetsUptoSaid : Prop := writesSetsUptoRow.holds Try.pinned (OpenSpec.upto writesSetsSpec)

/-- 'slipsheetlaw.WritesResizes', WHERE WHAT IT READS IS OF BULK AT MOST 1048576: true; the input reads as it did. -/
def writesResizesUptoRow : OpenClaim := { program := "ytpboapeoejdipaa", sum := "8b11bca9324f4b5a18aaf84b4ca8524b4302a2405b79cfa4230627f7bcaa61ef", func := "slipsheet/slipsheetlaw.WritesResizes", spec := "writesResizes", inPlace := ["slices.overlaps[int]"], unfollowed := true, recurses := true, apart := false, narrowed := true }
def WritesResizesUptoSaid : Prop := writesResizesUptoRow.holds Try.pinned (OpenSpec.upto writesResizesSpec)

/-- 'slipsheetlaw.WritesRight', WHERE WHAT IT READS IS OF BULK AT MOST 1048576: true; the input reads as it did. -/
def writesRightUptoRow : OpenClaim := { program := "ytpboapeoejdipaa", sum := "8b11bca9324f4b5a18aaf84b4ca8524b4302a2405b79cfa4230627f7bcaa61ef", func := "slipsheet/slipsheetlaw.WritesRight", spec := "writesRight", inPlace := ["slices.overlaps[int]"], unfollowed := true, recurses := true, apart := false, narrowed := true }
def WritesRightUptoSaid : Prop := writesRightUptoRow.holds Try.pinned (OpenSpec.upto writesRightSpec)

/-- 'slipsheetlaw.WritesTrue', WHERE WHAT IT READS IS OF BULK AT MOST 1048576: true; the input reads as it did. -/
def writesTrueUptoRow : OpenClaim := { program := "ytpboapeoejdipaa", sum := "8b11bca9324f4b5a18aaf84b4ca8524b4302a2405b79cfa4230627f7bcaa61ef", func := "slipsheet/slipsheetlaw.WritesTrue", spec := "writesTrue", inPlace := ["internal/abi.NoEscape", "internal/bytealg.MakeNoZero", "slices.overlaps[int]"], unfollowed := true, recurses := true, apart := false, narrowed := true }
def WritesTrueUptoSaid : Prop := writesTrueUptoRow.holds Try.pinned (OpenSpec.upto writesTrueSpec)

/-- 'slipsheetlaw.WritesInPlace', WHERE WHAT IT READS IS OF BULK AT MOST 1048576: true; the input reads as it did. -/
def writesInPlaceUptoRow : OpenClaim := { program := "ytpboapeoejdipaa", sum := "8b11bca9324f4b5a18aaf84b4ca8524b4302a2405b79cfa4230627f7bcaa61ef", func := "slipsheet/slipsheetlaw.WritesInPlace", spec := "writesInPlace", inPlace := ["slices.overlaps[int]"], unfollowed := true, recurses := true, apart := false, narrowed := true }
def WritesInPlaceUptoSaid : Prop := writesInPlaceUptoRow.holds Try.pinned (OpenSpec.upto writesInPlaceSpec)

/-- 'slipsheetlaw.WritesOrder', WHERE WHAT IT READS IS OF BULK AT MOST 1048576: true; the input reads as it did. -/
def writesOrderUptoRow : OpenClaim := { program := "ytpboapeoejdipaa", sum := "8b11bca9324f4b5a18aaf84b4ca8524b4302a2405b79cfa4230627f7bcaa61ef", func := "slipsheet/slipsheetlaw.WritesOrder", spec := "writesOrder", inPlace := ["slices.overlaps[int]", "internal/abi.NoEscape", "internal/bytealg.MakeNoZero"], unfollowed := true, recurses := true, apart := false, narrowed := true }
def WritesOrderUptoSaid : Prop := writesOrderUptoRow.holds Try.pinned (OpenSpec.upto writesOrderSpec)

/-- 'slipsheetlaw.WritesPast', WHERE WHAT IT READS IS OF BULK AT MOST 1048576: true; the input reads as it did. -/
def writesPastUptoRow : OpenClaim := { program := "ytpboapeoejdipaa", sum := "8b11bca9324f4b5a18aaf84b4ca8524b4302a2405b79cfa4230627f7bcaa61ef", func := "slipsheet/slipsheetlaw.WritesPast", spec := "writesPast", inPlace := ["internal/abi.NoEscape", "internal/bytealg.MakeNoZero", "slices.overlaps[int]"], unfollowed := true, recurses := true, apart := false, narrowed := true }
def WritesPastUptoSaid : Prop := writesPastUptoRow.holds Try.pinned (OpenSpec.upto writesPastSpec)

end Rows
end Go.Proofs.Ytpboapeoejdipaa
