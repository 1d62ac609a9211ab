/-
  No cell of these rows narrows 'for every input' (looked for: loops, veiled, ifaces, maps, wideKeys, modest, calm, conditions, laid).
  DERIVED. THE GIVEN ROWS OF THIS SEAT. 4 by the template 'for every input the law returns true; each argument reads behind the call as it read before'; 0 by the template 'total and deterministic' (their statements: YtfilnnjanhjbeaaTotals.lean).
  GIVEN WITH THE SEED: the statements are not yours to turn. If you find one false, say at which input.
  Laid BY PROGRAM, IN A SANDBOX (cutbox-rows.mjs): the forced cells as the released guide's own fill.sh prints them over the translation 01012cb9200fcfb7… (all of the seat's roots in one cut). By AI agents, Wed Nov 11 2026. No macro, syntax, notation, axiom, sorry.
-/
import Derived.Test.YtfilnnjanhjbeaaChecked
import GoSem.Claim
import GoSem.ClaimJoined
import GoSem.ClaimMapViews
import Derived.JoinedTies
import Derived.KernelRfl
namespace Go.Proofs.Ytfilnnjanhjbeaa
/- THE CELL 'sum', in the pinned program and in every row, IS THE sha256 OF THE DUMP (.gsa) THAT YtfilnnjanhjbeaaProg.lean LOADS. Nothing in Lean hashes anything: it is a label: what it is worth is what the hold of that sum in a sandbox is worth. -/
noncomputable def Try.pinned : Pinned := { name := "ytfilnnjanhjbeaa", sum := "01012cb9200fcfb706eefe0bdcd8a8a9bac6c042b94776b2265ae7c07f34474f", checked := Try.checked }
namespace Rows
def none {H : Type} : Left H := { results := [], args := [] }

/-- 'slipsheetlaw.SnapsTells': WHATEVER THE INPUT: true; the input reads as it did. -/
def snapsTellsSpec : ChangeSpec := { name := "snapsTells", fn := fun _ => fun
  | [d1, d2] => { results := [.lit (.bool true)], args := [d1, d2] }
  | _ => none }
def snapsTellsRow : OpenClaim := { program := "ytfilnnjanhjbeaa", sum := "01012cb9200fcfb706eefe0bdcd8a8a9bac6c042b94776b2265ae7c07f34474f", func := "slipsheet/slipsheetlaw.SnapsTells", spec := "snapsTells", inPlace := ["slices.overlaps[slipsheet/api.Snap]"], unfollowed := true, recurses := true, apart := false }
def SnapsTellsSaid : Prop := snapsTellsRow.holds Try.pinned (OpenSpec.ofChange snapsTellsSpec)

/-- ITS FALSE NEIGHBOUR: 'it returns false'. Refute it at one input. -/
def snapsTellsWrong : ChangeSpec := { name := "snapsTells", fn := fun _ => fun
  | [d1, d2] => { results := [.lit (.bool false)], args := [d1, d2] }
  | _ => none }
def SnapsTellsWrongFalsely : Prop := snapsTellsRow.holds Try.pinned (OpenSpec.ofChange snapsTellsWrong)

/-- 'slipsheetlaw.SnapsRight': WHATEVER THE INPUT: true; the input reads as it did. -/
def snapsRightSpec : ChangeSpec := { name := "snapsRight", fn := fun _ => fun
  | [d1, d2] => { results := [.lit (.bool true)], args := [d1, d2] }
  | _ => none }
def snapsRightRow : OpenClaim := { program := "ytfilnnjanhjbeaa", sum := "01012cb9200fcfb706eefe0bdcd8a8a9bac6c042b94776b2265ae7c07f34474f", func := "slipsheet/slipsheetlaw.SnapsRight", spec := "snapsRight", inPlace := ["slices.overlaps[slipsheet/api.Snap]"], unfollowed := true, recurses := true, apart := false }
def SnapsRightSaid : Prop := snapsRightRow.holds Try.pinned (OpenSpec.ofChange snapsRightSpec)

/-- ITS FALSE NEIGHBOUR: 'it returns false'. Refute it at one input. -/
def snapsRightWrong : ChangeSpec := { name := "snapsRight", fn := fun _ => fun
  | [d1, d2] => { results := [.lit (.bool false)], args := [d1, d2] }
  | _ => none }
def SnapsRightWrongFalsely : Prop := snapsRightRow.holds Try.pinned (OpenSpec.ofChange snapsRightWrong)

/-- 'slipsheetlaw.SnapsTrue': WHATEVER THE INPUT: true; the input reads as it did. -/
def snapsTrueSpec : ChangeSpec := { name := "snapsTrue", fn := fun _ => fun
  | [d1, d2, d3] => { results := [.lit (.bool true)], args := [d1, d2, d3] }
  | _ => none }
def snapsTrueRow : OpenClaim := { program := "ytfilnnjanhjbeaa", sum := "01012cb9200fcfb706eefe0bdcd8a8a9bac6c042b94776b2265ae7c07f34474f", func := "slipsheet/slipsheetlaw.SnapsTrue", spec := "snapsTrue", inPlace := ["internal/abi.NoEscape", "internal/bytealg.MakeNoZero", "slices.overlaps[slipsheet/api.Snap]"], unfollowed := true, recurses := true, apart := false }
def SnapsTrueSaid : Prop := snapsTrueRow.holds Try.pinned (OpenSpec.ofChange snapsTrueSpec)

/-- ITS FALSE NEIGHBOUR: 'it returns false'. Refute it at one input. -/
def snapsTrueWrong : ChangeSpec := { name := "snapsTrue", fn := fun _ => fun
  | [d1, d2, d3] => { results := [.lit (.bool false)], args := [d1, d2, d3] }
  | _ => none }
def SnapsTrueWrongFalsely : Prop := snapsTrueRow.holds Try.pinned (OpenSpec.ofChange snapsTrueWrong)

/-- 'slipsheetlaw.SnapsBack': WHATEVER THE INPUT: true; the input reads as it did. -/
def snapsBackSpec : ChangeSpec := { name := "snapsBack", fn := fun _ => fun
  | [d1, d2, d3, d4] => { results := [.lit (.bool true)], args := [d1, d2, d3, d4] }
  | _ => none }
def snapsBackRow : OpenClaim := { program := "ytfilnnjanhjbeaa", sum := "01012cb9200fcfb706eefe0bdcd8a8a9bac6c042b94776b2265ae7c07f34474f", func := "slipsheet/slipsheetlaw.SnapsBack", spec := "snapsBack", inPlace := ["slices.overlaps[slipsheet/api.Snap]", "internal/abi.NoEscape", "internal/bytealg.MakeNoZero"], unfollowed := true, recurses := true, apart := false }
def SnapsBackSaid : Prop := snapsBackRow.holds Try.pinned (OpenSpec.ofChange snapsBackSpec)

/-- ITS FALSE NEIGHBOUR: 'it returns false'. Refute it at one input. -/
def snapsBackWrong : ChangeSpec := { name := "snapsBack", fn := fun _ => fun
  | [d1, d2, d3, d4] => { results := [.lit (.bool false)], args := [d1, d2, d3, d4] }
  | _ => none }
def SnapsBackWrongFalsely : Prop := snapsBackRow.holds Try.pinned (OpenSpec.ofChange snapsBackWrong)

/- THE SECOND FORM. 'bulk': how many values and letters a reading holds, each counted each time it is reached (what is shared counts as often as it is met; a slice's spare places count too). A statement '..UptoSaid' is the law's where the arguments, and the package variables that the reading takes, are together of bulk at most 1048576: NARROWER than '..Said'. Prove '..Said' where nothing that the law and all that it calls make is longer than what came in: it says more and counts as full. Else prove '..UptoSaid'. A law counts once. -/
mutual
def uptoBulk {H : Type} : DataW H → Nat
  | .lit (.string bytes) => bytes.length + 1
  | .lit _ => 1
  | .nil => 1
  | .ptr d => uptoBulk d + 1
  | .slice elems spare => uptoBulkAll elems + uptoBulkAll spare + 1
  | .agg parts => uptoBulkAll parts + 1
  | .iface _ d => uptoBulk d + 1
  | .map entries => uptoBulkEntries entries + 1
  | .held _ => 1
def uptoBulkAll {H : Type} : List (DataW H) → Nat
  | [] => 0
  | d :: r => uptoBulk d + uptoBulkAll r
def uptoBulkEntries {H : Type} : List (Lit × DataW H) → Nat
  | [] => 0
  | x :: r => uptoBulkEntry x + uptoBulkEntries r
def uptoBulkEntry {H : Type} : Lit × DataW H → Nat
  | (.string bytes, d) => bytes.length + uptoBulk d + 1
  | (_, d) => uptoBulk d + 1
 end
def uptoSmall : (H : Type) → List (DataW H) → Bool := fun _ ds => decide (uptoBulkAll ds ≤ 1048576)
def OpenSpec.upto (s : _root_.Go.ChangeSpec) : _root_.Go.OpenSpec := { _root_.Go.OpenSpec.ofChange s with cond := some uptoSmall }

/-- 'slipsheetlaw.SnapsTells', WHERE WHAT IT READS IS OF BULK AT MOST 1048576: true; the input reads as it did. -/
def snapsTellsUptoRow : OpenClaim := { program := "ytfilnnjanhjbeaa", sum := "01012cb9200fcfb706eefe0bdcd8a8a9bac6c042b94776b2265ae7c07f34474f", func := "slipsheet/slipsheetlaw.SnapsTells", spec := "snapsTells", inPlace := ["slices.overlaps[slipsheet/api.Snap]"], unfollowed := true, recurses := true, apart := false, narrowed := true }
def SnapsTellsUptoSaid : Prop := snapsTellsUptoRow.holds Try.pinned (OpenSpec.upto snapsTellsSpec)

/-- 'slipsheetlaw.SnapsRight', WHERE WHAT IT READS IS OF BULK AT MOST 1048576: true; the input reads as it did. -/
def snapsRightUptoRow : OpenClaim := { program := "ytfilnnjanhjbeaa", sum := "01012cb9200fcfb706eefe0bdcd8a8a9bac6c042b94776b2265ae7c07f34474f", func := "slipsheet/slipsheetlaw.SnapsRight", spec := "snapsRight", inPlace := ["slices.overlaps[slipsheet/api.Snap]"], unfollowed := true, recurses := true, apart := false, narrowed := true }
def SnapsRightUptoSaid : Prop := snapsRightUptoRow.holds Try.pinned (OpenSpec.upto snapsRightSpec)

/-- 'slipsheetlaw.SnapsTrue', WHERE WHAT IT READS IS OF BULK AT MOST 1048576: true; the input reads as it did. -/
def snapsTrueUptoRow : OpenClaim := { program := "ytfilnnjanhjbeaa", sum := "01012cb9200fcfb706eefe0bdcd8a8a9bac6c042b94776b2265ae7c07f34474f", func := "slipsheet/slipsheetlaw.SnapsTrue", spec := "snapsTrue", inPlace := ["internal/abi.NoEscape", "internal/bytealg.MakeNoZero", "slices.overlaps[slipsheet/api.Snap]"], unfollowed := true, recurses := true, apart := false, narrowed := true }
def SnapsTrueUptoSaid : Prop := snapsTrueUptoRow.holds Try.pinned (OpenSpec.upto snapsTrueSpec)

/-- 'slipsheetlaw.SnapsBack', WHERE WHAT IT READS IS OF BULK AT MOST 1048576: true; the input reads as it did. -/
def snapsBackUptoRow : OpenClaim := { program := "ytfilnnjanhjbeaa", sum := "01012cb9200fcfb706eefe0bdcd8a8a9bac6c042b94776b2265ae7c07f34474f", func := "slipsheet/slipsheetlaw.SnapsBack", spec := "snapsBack", inPlace := ["slices.overlaps[slipsheet/api.Snap]", "internal/abi.NoEscape", "internal/bytealg.MakeNoZero"], unfollowed := true, recurses := true, apart := false, narrowed := true }
def SnapsBackUptoSaid : Prop := snapsBackUptoRow.holds Try.pinned (OpenSpec.upto snapsBackSpec)

end Rows
end Go.Proofs.Ytfilnnjanhjbeaa
