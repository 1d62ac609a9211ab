/-
  No cell of these rows narrows 'for every input' (looked for: loops, veiled, ifaces, maps, wideKeys, modest, calm, conditions, laid).
  DERIVED. THE GIVEN ROWS OF THIS SEAT. 8 by the template 'for every input the law returns true; each argument reads behind the call as it read before'; 0 by the template 'total and deterministic' (their statements: YtnjjnioilbnnpaaTotals.lean).
  GIVEN WITH THE SEED: the statements are not yours to turn. If you find one false, say at which input.
  Laid BY PROGRAM, IN A SANDBOX (cutbox-rows.mjs): the forced cells as the released guide's own fill.sh prints them over the translation fef3340facc7c974… (all of the seat's roots in one cut). By AI agents, Wed Nov 11 2026. No macro, syntax, notation, axiom, sorry.
-/
import Derived.Test.YtnjjnioilbnnpaaChecked
import GoSem.Claim
import GoSem.ClaimJoined
import GoSem.ClaimMapViews
import Derived.JoinedTies
import Derived.KernelRfl
namespace Go.Proofs.Ytnjjnioilbnnpaa
/- THE CELL 'sum', in the pinned program and in every row, IS THE sha256 OF THE DUMP (.gsa) THAT YtnjjnioilbnnpaaProg.lean LOADS. Nothing in Lean hashes anything: it is a label: what it is worth is what the hold of that sum in a sandbox is worth. -/
noncomputable def Try.pinned : Pinned := { name := "ytnjjnioilbnnpaa", sum := "fef3340facc7c9742eb5fb363ffeeb8b2eb911bec37358ee5c035e9e47f3714d", checked := Try.checked }
namespace Rows
def none {H : Type} : Left H := { results := [], args := [] }

/-- 'slipsheetlaw.TreeShapes': WHATEVER THE INPUT: true; the input reads as it did. -/
def treeShapesSpec : ChangeSpec := { name := "treeShapes", fn := fun _ => fun
  | [d] => { results := [.lit (.bool true)], args := [d] }
  | _ => none }
def treeShapesRow : OpenClaim := { program := "ytnjjnioilbnnpaa", sum := "fef3340facc7c9742eb5fb363ffeeb8b2eb911bec37358ee5c035e9e47f3714d", func := "slipsheet/slipsheetlaw.TreeShapes", spec := "treeShapes", unfollowed := true, recurses := true, apart := false }
def TreeShapesSaid : Prop := treeShapesRow.holds Try.pinned (OpenSpec.ofChange treeShapesSpec)

/-- ITS FALSE NEIGHBOUR: 'it returns false'. Refute it at one input. -/
def treeShapesWrong : ChangeSpec := { name := "treeShapes", fn := fun _ => fun
  | [d] => { results := [.lit (.bool false)], args := [d] }
  | _ => none }
def TreeShapesWrongFalsely : Prop := treeShapesRow.holds Try.pinned (OpenSpec.ofChange treeShapesWrong)

/-- 'slipsheetlaw.TreeCounts': WHATEVER THE INPUT: true; the input reads as it did. -/
def treeCountsSpec : ChangeSpec := { name := "treeCounts", fn := fun _ => fun
  | [d] => { results := [.lit (.bool true)], args := [d] }
  | _ => none }
def treeCountsRow : OpenClaim := { program := "ytnjjnioilbnnpaa", sum := "fef3340facc7c9742eb5fb363ffeeb8b2eb911bec37358ee5c035e9e47f3714d", func := "slipsheet/slipsheetlaw.TreeCounts", spec := "treeCounts", unfollowed := true, recurses := true, apart := false }
def TreeCountsSaid : Prop := treeCountsRow.holds Try.pinned (OpenSpec.ofChange treeCountsSpec)

/-- ITS FALSE NEIGHBOUR: 'it returns false'. Refute it at one input. -/
def treeCountsWrong : ChangeSpec := { name := "treeCounts", fn := fun _ => fun
  | [d] => { results := [.lit (.bool false)], args := [d] }
  | _ => none }
def TreeCountsWrongFalsely : Prop := treeCountsRow.holds Try.pinned (OpenSpec.ofChange treeCountsWrong)

/-- 'slipsheetlaw.TreeLooks': WHATEVER THE INPUT: true; the input reads as it did. -/
def treeLooksSpec : ChangeSpec := { name := "treeLooks", fn := fun _ => fun
  | [d1, d2] => { results := [.lit (.bool true)], args := [d1, d2] }
  | _ => none }
def treeLooksRow : OpenClaim := { program := "ytnjjnioilbnnpaa", sum := "fef3340facc7c9742eb5fb363ffeeb8b2eb911bec37358ee5c035e9e47f3714d", func := "slipsheet/slipsheetlaw.TreeLooks", spec := "treeLooks", unfollowed := true, recurses := true, apart := false }
def TreeLooksSaid : Prop := treeLooksRow.holds Try.pinned (OpenSpec.ofChange treeLooksSpec)

/-- ITS FALSE NEIGHBOUR: 'it returns false'. Refute it at one input. -/
def treeLooksWrong : ChangeSpec := { name := "treeLooks", fn := fun _ => fun
  | [d1, d2] => { results := [.lit (.bool false)], args := [d1, d2] }
  | _ => none }
def TreeLooksWrongFalsely : Prop := treeLooksRow.holds Try.pinned (OpenSpec.ofChange treeLooksWrong)

/-- 'slipsheetlaw.TreeTrue': WHATEVER THE INPUT: true; the input reads as it did. -/
def treeTrueSpec : ChangeSpec := { name := "treeTrue", fn := fun _ => fun
  | [d1, d2] => { results := [.lit (.bool true)], args := [d1, d2] }
  | _ => none }
def treeTrueRow : OpenClaim := { program := "ytnjjnioilbnnpaa", sum := "fef3340facc7c9742eb5fb363ffeeb8b2eb911bec37358ee5c035e9e47f3714d", func := "slipsheet/slipsheetlaw.TreeTrue", spec := "treeTrue", unfollowed := true, recurses := true, apart := false }
def TreeTrueSaid : Prop := treeTrueRow.holds Try.pinned (OpenSpec.ofChange treeTrueSpec)

/-- ITS FALSE NEIGHBOUR: 'it returns false'. Refute it at one input. -/
def treeTrueWrong : ChangeSpec := { name := "treeTrue", fn := fun _ => fun
  | [d1, d2] => { results := [.lit (.bool false)], args := [d1, d2] }
  | _ => none }
def TreeTrueWrongFalsely : Prop := treeTrueRow.holds Try.pinned (OpenSpec.ofChange treeTrueWrong)

/-- 'slipsheetlaw.MendTells': WHATEVER THE INPUT: true; the input reads as it did. -/
def mendTellsSpec : ChangeSpec := { name := "mendTells", fn := fun _ => fun
  | [d] => { results := [.lit (.bool true)], args := [d] }
  | _ => none }
def mendTellsRow : OpenClaim := { program := "ytnjjnioilbnnpaa", sum := "fef3340facc7c9742eb5fb363ffeeb8b2eb911bec37358ee5c035e9e47f3714d", func := "slipsheet/slipsheetlaw.MendTells", spec := "mendTells", unfollowed := true, recurses := true, apart := false }
def MendTellsSaid : Prop := mendTellsRow.holds Try.pinned (OpenSpec.ofChange mendTellsSpec)

/-- ITS FALSE NEIGHBOUR: 'it returns false'. Refute it at one input. -/
def mendTellsWrong : ChangeSpec := { name := "mendTells", fn := fun _ => fun
  | [d] => { results := [.lit (.bool false)], args := [d] }
  | _ => none }
def MendTellsWrongFalsely : Prop := mendTellsRow.holds Try.pinned (OpenSpec.ofChange mendTellsWrong)

/-- 'slipsheetlaw.MendTrue': WHATEVER THE INPUT: true; the input reads as it did. -/
def mendTrueSpec : ChangeSpec := { name := "mendTrue", fn := fun _ => fun
  | [d1, d2] => { results := [.lit (.bool true)], args := [d1, d2] }
  | _ => none }
def mendTrueRow : OpenClaim := { program := "ytnjjnioilbnnpaa", sum := "fef3340facc7c9742eb5fb363ffeeb8b2eb911bec37358ee5c035e9e47f3714d", func := "slipsheet/slipsheetlaw.MendTrue", spec := "mendTrue", inPlace := ["internal/abi.NoEscape", "internal/bytealg.MakeNoZero"], unfollowed := true, recurses := true, apart := false }
def MendTrueSaid : Prop := mendTrueRow.holds Try.pinned (OpenSpec.ofChange mendTrueSpec)

/-- ITS FALSE NEIGHBOUR: 'it returns false'. Refute it at one input. -/
def mendTrueWrong : ChangeSpec := { name := "mendTrue", fn := fun _ => fun
  | [d1, d2] => { results := [.lit (.bool false)], args := [d1, d2] }
  | _ => none }
def MendTrueWrongFalsely : Prop := mendTrueRow.holds Try.pinned (OpenSpec.ofChange mendTrueWrong)

/-- 'slipsheetlaw.ReadsTells': WHATEVER THE INPUT: true; the input reads as it did. -/
def readsTellsSpec : ChangeSpec := { name := "readsTells", fn := fun _ => fun
  | [d1, d2, d3] => { results := [.lit (.bool true)], args := [d1, d2, d3] }
  | _ => none }
def readsTellsRow : OpenClaim := { program := "ytnjjnioilbnnpaa", sum := "fef3340facc7c9742eb5fb363ffeeb8b2eb911bec37358ee5c035e9e47f3714d", func := "slipsheet/slipsheetlaw.ReadsTells", spec := "readsTells", inPlace := ["internal/abi.NoEscape", "internal/bytealg.MakeNoZero"], unfollowed := true, recurses := true, apart := false }
def ReadsTellsSaid : Prop := readsTellsRow.holds Try.pinned (OpenSpec.ofChange readsTellsSpec)

/-- ITS FALSE NEIGHBOUR: 'it returns false'. Refute it at one input. -/
def readsTellsWrong : ChangeSpec := { name := "readsTells", fn := fun _ => fun
  | [d1, d2, d3] => { results := [.lit (.bool false)], args := [d1, d2, d3] }
  | _ => none }
def ReadsTellsWrongFalsely : Prop := readsTellsRow.holds Try.pinned (OpenSpec.ofChange readsTellsWrong)

/-- 'slipsheetlaw.ReadsTrue': WHATEVER THE INPUT: true; the input reads as it did. -/
def readsTrueSpec : ChangeSpec := { name := "readsTrue", fn := fun _ => fun
  | [d1, d2] => { results := [.lit (.bool true)], args := [d1, d2] }
  | _ => none }
def readsTrueRow : OpenClaim := { program := "ytnjjnioilbnnpaa", sum := "fef3340facc7c9742eb5fb363ffeeb8b2eb911bec37358ee5c035e9e47f3714d", func := "slipsheet/slipsheetlaw.ReadsTrue", spec := "readsTrue", inPlace := ["internal/abi.NoEscape", "internal/bytealg.MakeNoZero"], unfollowed := true, recurses := true, apart := false }
def ReadsTrueSaid : Prop := readsTrueRow.holds Try.pinned (OpenSpec.ofChange readsTrueSpec)

/-- ITS FALSE NEIGHBOUR: 'it returns false'. Refute it at one input. -/
def readsTrueWrong : ChangeSpec := { name := "readsTrue", fn := fun _ => fun
  | [d1, d2] => { results := [.lit (.bool false)], args := [d1, d2] }
  | _ => none }
def ReadsTrueWrongFalsely : Prop := readsTrueRow.holds Try.pinned (OpenSpec.ofChange readsTrueWrong)

/- THE SECOND FORM. 'bulk': how many values and letters a reading holds, each counted each time it is reached (what is shared counts as often as it is met; a slice's spare places count too). A statement '..UptoSaid' is the law's where the arguments, and the package variables that the reading takes, are together of bulk at most 1048576: NARROWER than '..Said'. Prove '..Said' where nothing that the law and all that it calls make is longer than what came in: it says more and counts as full. Else prove '..UptoSaid'. A law counts once. -/
mutual
def uptoBulk {H : Type} : DataW H → Nat
  | .lit (.string bytes) => bytes.length + 1
  | .lit _ => 1
  | .nil => 1
  | .ptr d => uptoBulk d + 1
  | .slice elems spare => uptoBulkAll elems + uptoBulkAll spare + 1
  | .agg parts => uptoBulkAll parts + 1
  | .iface _ d => uptoBulk d + 1
  | .map entries => uptoBulkEntries entries + 1
  | .held _ => 1
def uptoBulkAll {H : Type} : List (DataW H) → Nat
  | [] => 0
  | d :: r => uptoBulk d + uptoBulkAll r
def uptoBulkEntries {H : Type} : List (Lit × DataW H) → Nat
  | [] => 0
  | x :: r => uptoBulkEntry x + uptoBulkEntries r
def uptoBulkEntry {H : Type} : Lit × DataW H → Nat
  | (.string bytes, d) => bytes.length + uptoBulk d + 1
  | (_, d) => uptoBulk d + 1
 end
def uptoSmall : (H : Type) → List (DataW H) → Bool := fun _ ds => decide (uptoBulkAll ds ≤ 1048576)
def OpenSpec.upto (s : _root_.Go.ChangeSpec) : _root_.Go.OpenSpec := { _root_.Go.OpenSpec.ofChange s with cond := some uptoSmall }

/-- 'slipsheetlaw.TreeShapes', WHERE WHAT IT READS IS OF BULK AT MOST 1048576: true; the input reads as it did. -/
def treeShapesUptoRow : OpenClaim := { program := "ytnjjnioilbnnpaa", sum := "fef3340facc7c9742eb5fb363ffeeb8b2eb911bec37358ee5c035e9e47f3714d", func := "slipsheet/slipsheetlaw.TreeShapes", spec := "treeShapes", unfollowed := true, recurses := true, apart := false, narrowed := true }
def TreeShapesUptoSaid : Prop := treeShapesUptoRow.holds Try.pinned (OpenSpec.upto treeShapesSpec)

/-- 'slipsheetlaw.TreeCounts', WHERE WHAT IT READS IS OF BULK AT MOST 1048576: true; the input reads as it did. -/
def treeCountsUptoRow : OpenClaim := { program := "ytnjjnioilbnnpaa", sum := "fef3340facc7c9742eb5fb363ffeeb8b2eb911bec37358ee5c035e9e47f3714d", func := "slipsheet/slipsheetlaw.TreeCounts", spec := "treeCounts", unfollowed := true, recurses := true, apart := false, narrowed := true }
def TreeCountsUptoSaid : Prop := treeCountsUptoRow.holds Try.pinned (OpenSpec.upto treeCountsSpec)

/-- 'slipsheetlaw.TreeLooks', WHERE WHAT IT READS IS OF BULK AT MOST 1048576: true; the input reads as it did. -/
def treeLooksUptoRow : OpenClaim := { program := "ytnjjnioilbnnpaa", sum := "fef3340facc7c9742eb5fb363ffeeb8b2eb911bec37358ee5c035e9e47f3714d", func := "slipsheet/slipsheetlaw.TreeLooks", spec := "treeLooks", unfollowed := true, recurses := true, apart := false, narrowed := true }
def TreeLooksUptoSaid : Prop := treeLooksUptoRow.holds Try.pinned (OpenSpec.upto treeLooksSpec)

/-- 'slipsheetlaw.TreeTrue', WHERE WHAT IT READS IS OF BULK AT MOST 1048576: true; the input reads as it did. -/
def treeTrueUptoRow : OpenClaim := { program := "ytnjjnioilbnnpaa", sum := "fef3340facc7c9742eb5fb363ffeeb8b2eb911bec37358ee5c035e9e47f3714d", func := "slipsheet/slipsheetlaw.TreeTrue", spec := "treeTrue", unfollowed := true, recurses := true, apart := false, narrowed := true }
def TreeTrueUptoSaid : Prop := treeTrueUptoRow.holds Try.pinned (OpenSpec.upto treeTrueSpec)

/-- 'slipsheetlaw.MendTells', WHERE WHAT IT READS IS OF BULK AT MOST 1048576: true; the input reads as it did. -/
def mendTellsUptoRow : OpenClaim := { program := "ytnjjnioilbnnpaa", sum := "fef3340facc7c9742eb5fb363ffeeb8b2eb911bec37358ee5c035e9e47f3714d", func := "slipsheet/slipsheetlaw.MendTells", spec := "mendTells", unfollowed := true, recurses := true, apart := false, narrowed := true }
def MendTellsUptoSaid : Prop := mendTellsUptoRow.holds Try.pinned (OpenSpec.upto mendTellsSpec)

/-- 'slipsheetlaw.MendTrue', WHERE WHAT IT READS IS OF BULK AT MOST 1048576: true; the input reads as it did. -/
def mendTrueUptoRow : OpenClaim := { program := "ytnjjnioilbnnpaa", sum := "fef3340facc7c9742eb5fb363ffeeb8b2eb911bec37358ee5c035e9e47f3714d", func := "slipsheet/slipsheetlaw.MendTrue", spec := "mendTrue", inPlace := ["internal/abi.NoEscape", "internal/bytealg.MakeNoZero"], unfollowed := true, recurses := true, apart := false, narrowed := true }
def MendTrueUptoSaid : Prop := mendTrueUptoRow.holds Try.pinned (OpenSpec.upto mendTrueSpec)

/-- 'slipsheetlaw.ReadsTells', WHERE WHAT IT READS IS OF BULK AT MOST 1048576: true; the input reads as it did. -/
def readsTellsUptoRow : OpenClaim := { program := "ytnjjnioilbnnpaa", sum := "fef3340facc7c9742eb5fb363ffeeb8b2eb911bec37358ee5c035e9e47f3714d", func := "slipsheet/slipsheetlaw.ReadsTells", spec := "readsTells", inPlace := ["internal/abi.NoEscape", "internal/bytealg.MakeNoZero"], unfollowed := true, recurses := true, apart := false, narrowed := true }
def ReadsTellsUptoSaid : Prop := readsTellsUptoRow.holds Try.pinned (OpenSpec.upto readsTellsSpec)

/-- 'slipsheetlaw.ReadsTrue', WHERE WHAT IT READS IS OF BULK AT MOST 1048576: true; the input reads as it did. -/
def readsTrueUptoRow : OpenClaim := { program := "ytnjjnioilbnnpaa", sum := "fef3340facc7c9742eb5fb363ffeeb8b2eb911bec37358ee5c035e9e47f3714d", func := "slipsheet/slipsheetlaw.ReadsTrue", spec := "readsTrue", inPlace := ["internal/abi.NoEscape", "internal/bytealg.MakeNoZero"], unfollowed := true, recurses := true, apart := false, narrowed := true }
def ReadsTrueUptoSaid : Prop := readsTrueUptoRow.holds Try.pinned (OpenSpec.upto readsTrueSpec)

end Rows
end Go.Proofs.Ytnjjnioilbnnpaa
