/-
  No cell of these rows narrows 'for every input' (looked for: loops, veiled, ifaces, maps, wideKeys, modest, calm, conditions, laid).
  DERIVED. THE GIVEN ROWS OF THIS SEAT. 5 by the template 'for every input the law returns true; each argument reads behind the call as it read before'; 0 by the template 'total and deterministic' (their statements: YtmdjoafbckphfaaTotals.lean).
  GIVEN WITH THE SEED: the statements are not yours to turn. If you find one false, say at which input.
  Laid BY PROGRAM, IN A SANDBOX (cutbox-rows.mjs): the forced cells as the released guide's own fill.sh prints them over the translation e9f7dea39f49e7b1… (all of the seat's roots in one cut). By AI agents, Wed Nov 11 2026. No macro, syntax, notation, axiom, sorry.
-/
import Derived.Test.YtmdjoafbckphfaaChecked
import GoSem.Claim
import GoSem.ClaimJoined
import GoSem.ClaimMapViews
import Derived.JoinedTies
import Derived.KernelRfl
namespace Go.Proofs.Ytmdjoafbckphfaa
/- THE CELL 'sum', in the pinned program and in every row, IS THE sha256 OF THE DUMP (.gsa) THAT YtmdjoafbckphfaaProg.lean LOADS. Nothing in Lean hashes anything: it is a label: what it is worth is what the hold of that sum in a sandbox is worth. -/
noncomputable def Try.pinned : Pinned := { name := "ytmdjoafbckphfaa", sum := "e9f7dea39f49e7b16066b695860070deba8f66ef3362d214672f50b330cb4549", checked := Try.checked }
namespace Rows
def none {H : Type} : Left H := { results := [], args := [] }

/-- 'slipsheetlaw.StackTrue': WHATEVER THE INPUT: true; the input reads as it did. -/
def stackTrueSpec : ChangeSpec := { name := "stackTrue", fn := fun _ => fun
  | [d1, d2, d3, d4] => { results := [.lit (.bool true)], args := [d1, d2, d3, d4] }
  | _ => none }
def stackTrueRow : OpenClaim := { program := "ytmdjoafbckphfaa", sum := "e9f7dea39f49e7b16066b695860070deba8f66ef3362d214672f50b330cb4549", func := "slipsheet/slipsheetlaw.StackTrue", spec := "stackTrue", inPlace := ["internal/abi.NoEscape", "internal/bytealg.MakeNoZero"], unfollowed := true, recurses := true, apart := false }
def StackTrueSaid : Prop := stackTrueRow.holds Try.pinned (OpenSpec.ofChange stackTrueSpec)

/-- ITS FALSE NEIGHBOUR: 'it returns false'. Refute it at one input. -/
def stackTrueWrong : ChangeSpec := { name := "stackTrue", fn := fun _ => fun
  | [d1, d2, d3, d4] => { results := [.lit (.bool false)], args := [d1, d2, d3, d4] }
  | _ => none }
def StackTrueWrongFalsely : Prop := stackTrueRow.holds Try.pinned (OpenSpec.ofChange stackTrueWrong)

/-- 'slipsheetlaw.StackBare': WHATEVER THE INPUT: true; the input reads as it did. -/
def stackBareSpec : ChangeSpec := { name := "stackBare", fn := fun _ => fun
  | [d1, d2] => { results := [.lit (.bool true)], args := [d1, d2] }
  | _ => none }
def stackBareRow : OpenClaim := { program := "ytmdjoafbckphfaa", sum := "e9f7dea39f49e7b16066b695860070deba8f66ef3362d214672f50b330cb4549", func := "slipsheet/slipsheetlaw.StackBare", spec := "stackBare", inPlace := ["internal/abi.NoEscape", "internal/bytealg.MakeNoZero"], unfollowed := true, recurses := true, apart := false }
def StackBareSaid : Prop := stackBareRow.holds Try.pinned (OpenSpec.ofChange stackBareSpec)

/-- ITS FALSE NEIGHBOUR: 'it returns false'. Refute it at one input. -/
def stackBareWrong : ChangeSpec := { name := "stackBare", fn := fun _ => fun
  | [d1, d2] => { results := [.lit (.bool false)], args := [d1, d2] }
  | _ => none }
def StackBareWrongFalsely : Prop := stackBareRow.holds Try.pinned (OpenSpec.ofChange stackBareWrong)

/-- 'slipsheetlaw.MovePacks': WHATEVER THE INPUT: true; the input reads as it did. -/
def movePacksSpec : ChangeSpec := { name := "movePacks", fn := fun _ => fun
  | [d] => { results := [.lit (.bool true)], args := [d] }
  | _ => none }
def movePacksRow : OpenClaim := { program := "ytmdjoafbckphfaa", sum := "e9f7dea39f49e7b16066b695860070deba8f66ef3362d214672f50b330cb4549", func := "slipsheet/slipsheetlaw.MovePacks", spec := "movePacks", inPlace := ["internal/abi.NoEscape", "internal/bytealg.MakeNoZero"], unfollowed := true, recurses := true, apart := false }
def MovePacksSaid : Prop := movePacksRow.holds Try.pinned (OpenSpec.ofChange movePacksSpec)

/-- ITS FALSE NEIGHBOUR: 'it returns false'. Refute it at one input. -/
def movePacksWrong : ChangeSpec := { name := "movePacks", fn := fun _ => fun
  | [d] => { results := [.lit (.bool false)], args := [d] }
  | _ => none }
def MovePacksWrongFalsely : Prop := movePacksRow.holds Try.pinned (OpenSpec.ofChange movePacksWrong)

/-- 'slipsheetlaw.MoveRoom': WHATEVER THE INPUT: true; the input reads as it did. -/
def moveRoomSpec : ChangeSpec := { name := "moveRoom", fn := fun _ => fun
  | [d1, d2, d3] => { results := [.lit (.bool true)], args := [d1, d2, d3] }
  | _ => none }
def moveRoomRow : OpenClaim := { program := "ytmdjoafbckphfaa", sum := "e9f7dea39f49e7b16066b695860070deba8f66ef3362d214672f50b330cb4549", func := "slipsheet/slipsheetlaw.MoveRoom", spec := "moveRoom", inPlace := ["internal/abi.NoEscape", "internal/bytealg.MakeNoZero"], unfollowed := true, recurses := true, apart := false }
def MoveRoomSaid : Prop := moveRoomRow.holds Try.pinned (OpenSpec.ofChange moveRoomSpec)

/-- ITS FALSE NEIGHBOUR: 'it returns false'. Refute it at one input. -/
def moveRoomWrong : ChangeSpec := { name := "moveRoom", fn := fun _ => fun
  | [d1, d2, d3] => { results := [.lit (.bool false)], args := [d1, d2, d3] }
  | _ => none }
def MoveRoomWrongFalsely : Prop := moveRoomRow.holds Try.pinned (OpenSpec.ofChange moveRoomWrong)

/-- 'slipsheetlaw.MoveTrue': WHATEVER THE INPUT: true; the input reads as it did. -/
def moveTrueSpec : ChangeSpec := { name := "moveTrue", fn := fun _ => fun
  | [d1, d2, d3] => { results := [.lit (.bool true)], args := [d1, d2, d3] }
  | _ => none }
def moveTrueRow : OpenClaim := { program := "ytmdjoafbckphfaa", sum := "e9f7dea39f49e7b16066b695860070deba8f66ef3362d214672f50b330cb4549", func := "slipsheet/slipsheetlaw.MoveTrue", spec := "moveTrue", inPlace := ["internal/abi.NoEscape", "internal/bytealg.MakeNoZero"], unfollowed := true, recurses := true, apart := false }
def MoveTrueSaid : Prop := moveTrueRow.holds Try.pinned (OpenSpec.ofChange moveTrueSpec)

/-- ITS FALSE NEIGHBOUR: 'it returns false'. Refute it at one input. -/
def moveTrueWrong : ChangeSpec := { name := "moveTrue", fn := fun _ => fun
  | [d1, d2, d3] => { results := [.lit (.bool false)], args := [d1, d2, d3] }
  | _ => none }
def MoveTrueWrongFalsely : Prop := moveTrueRow.holds Try.pinned (OpenSpec.ofChange moveTrueWrong)

/- THE SECOND FORM. 'bulk': how many values and letters a reading holds, each counted each time it is reached (what is shared counts as often as it is met; a slice's spare places count too). A statement '..UptoSaid' is the law's where the arguments, and the package variables that the reading takes, are together of bulk at most 1048576: NARROWER than '..Said'. Prove '..Said' where nothing that the law and all that it calls make is longer than what came in: it says more and counts as full. Else prove '..UptoSaid'. A law counts once. -/
mutual
def uptoBulk {H : Type} : DataW H → Nat
  | .lit (.string bytes) => bytes.length + 1
  | .lit _ => 1
  | .nil => 1
  | .ptr d => uptoBulk d + 1
  | .slice elems spare => uptoBulkAll elems + uptoBulkAll spare + 1
  | .agg parts => uptoBulkAll parts + 1
  | .iface _ d => uptoBulk d + 1
  | .map entries => uptoBulkEntries entries + 1
  | .held _ => 1
def uptoBulkAll {H : Type} : List (DataW H) → Nat
  | [] => 0
  | d :: r => uptoBulk d + uptoBulkAll r
def uptoBulkEntries {H : Type} : List (Lit × DataW H) → Nat
  | [] => 0
  | x :: r => uptoBulkEntry x + uptoBulkEntries r
def uptoBulkEntry {H : Type} : Lit × DataW H → Nat
  | (.string bytes, d) => bytes.length + uptoBulk d + 1
  | (_, d) => uptoBulk d + 1
 end
def uptoSmall : (H : Type) → List (DataW H) → Bool := fun _ ds => decide (uptoBulkAll ds ≤ 1048576)
def OpenSpec.upto (s : _root_.Go.ChangeSpec) : _root_.Go.OpenSpec := { _root_.Go.OpenSpec.ofChange s with cond := some uptoSmall }

/-- 'slipsheetlaw.StackTrue', WHERE WHAT IT READS IS OF BULK AT MOST 1048576: true; the input reads as it did. -/
def stackTrueUptoRow : OpenClaim := { program := "ytmdjoafbckphfaa", sum := "e9f7dea39f49e7b16066b695860070deba8f66ef3362d214672f50b330cb4549", func := "slipsheet/slipsheetlaw.StackTrue", spec := "stackTrue", inPlace := ["internal/abi.NoEscape", "internal/bytealg.MakeNoZero"], unfollowed := true, recurses := true, apart := false, narrowed := true }
def StackTrueUptoSaid : Prop := stackTrueUptoRow.holds Try.pinned (OpenSpec.upto stackTrueSpec)

/-- 'slipsheetlaw.StackBare', WHERE WHAT IT READS IS OF BULK AT MOST 1048576: true; the input reads as it did. -/
def stackBareUptoRow : OpenClaim := { program := "ytmdjoafbckphfaa", sum := "e9f7dea39f49e7b16066b695860070deba8f66ef3362d214672f50b330cb4549", func := "slipsheet/slipsheetlaw.StackBare", spec := "stackBare", inPlace := ["internal/abi.NoEscape", "internal/bytealg.MakeNoZero"], unfollowed := true, recurses := true, apart := false, narrowed := true }
def StackBareUptoSaid : Prop := stackBareUptoRow.holds Try.pinned (OpenSpec.upto stackBareSpec)

/-- 'slipsheetlaw.MovePacks', WHERE WHAT IT READS IS OF BULK AT MOST 1048576: true; the input reads as it did. -/
def movePacksUptoRow : OpenClaim := { program := "ytmdjoafbckphfaa", sum := "e9f7dea39f49e7b16066b695860070deba8f66ef3362d214672f50b330cb4549", func := "slipsheet/slipsheetlaw.MovePacks", spec := "movePacks", inPlace := ["internal/abi.NoEscape", "internal/bytealg.MakeNoZero"], unfollowed := true, recurses := true, apart := false, narrowed := true }
def MovePacksUptoSaid : Prop := movePacksUptoRow.holds Try.pinned (OpenSpec.upto movePacksSpec)

/-- 'slipsheetlaw.MoveRoom', WHERE WHAT IT READS IS OF BULK AT MOST 1048576: true; the input reads as it did. -/
def moveRoomUptoRow : OpenClaim := { program := "ytmdjoafbckphfaa", sum := "e9f7dea39f49e7b16066b695860070deba8f66ef3362d214672f50b330cb4549", func := "slipsheet/slipsheetlaw.MoveRoom", spec := "moveRoom", inPlace := ["internal/abi.NoEscape", "internal/bytealg.MakeNoZero"], unfollowed := true, recurses := true, apart := false, narrowed := true }
def MoveRoomUptoSaid : Prop := moveRoomUptoRow.holds Try.pinned (OpenSpec.upto moveRoomSpec)

/-- 'slipsheetlaw.MoveTrue', WHERE WHAT IT READS IS OF BULK AT MOST 1048576: true; the input reads as it did. -/
def moveTrueUptoRow : OpenClaim := { program := "ytmdjoafbckphfaa", sum := "e9f7dea39f49e7b16066b695860070deba8f66ef3362d214672f50b330cb4549", func := "slipsheet/slipsheetlaw.MoveTrue", spec := "moveTrue", inPlace := ["internal/abi.NoEscape", "internal/bytealg.MakeNoZero"], unfollowed := true, recurses := true, apart := false, narrowed := true }
def MoveTrueUptoSaid : Prop := moveTrueUptoRow.holds Try.pinned (OpenSpec.upto moveTrueSpec)

end Rows
end Go.Proofs.Ytmdjoafbckphfaa
