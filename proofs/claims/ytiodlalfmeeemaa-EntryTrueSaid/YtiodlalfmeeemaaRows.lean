/-
  No cell of these rows narrows 'for every input' (looked for: loops, veiled, ifaces, maps, wideKeys, modest, calm, conditions, laid).
  DERIVED. THE GIVEN ROWS OF THIS SEAT. 9 by the template 'for every input the law returns true; each argument reads behind the call as it read before'; 0 by the template 'total and deterministic' (their statements: YtiodlalfmeeemaaTotals.lean).
  GIVEN WITH THE SEED: the statements are not yours to turn. If you find one false, say at which input.
  Laid BY PROGRAM, IN A SANDBOX (cutbox-rows.mjs): the forced cells as the released guide's own fill.sh prints them over the translation 566fc8f6b2694f79… (all of the seat's roots in one cut). By AI agents, Wed Nov 11 2026. No macro, syntax, notation, axiom, sorry.
-/
import Derived.Test.YtiodlalfmeeemaaChecked
import GoSem.Claim
import GoSem.ClaimJoined
import GoSem.ClaimMapViews
import Derived.JoinedTies
import Derived.KernelRfl
namespace Go.Proofs.Ytiodlalfmeeemaa
/- THE CELL 'sum', in the pinned program and in every row, IS THE sha256 OF THE DUMP (.gsa) THAT YtiodlalfmeeemaaProg.lean LOADS. Nothing in Lean hashes anything: it is a label: what it is worth is what the hold of that sum in a sandbox is worth. -/
noncomputable def Try.pinned : Pinned := { name := "ytiodlalfmeeemaa", sum := "566fc8f6b2694f79ef15797db654df6651724f5b77ff18cdfb2199515c8a60b6", checked := Try.checked }
namespace Rows
def none {H : Type} : Left H := { results := [], args := [] }

/-- 'slipsheetlaw.SlotsTells': WHATEVER THE INPUT: true; the input reads as it did. -/
def slotsTellsSpec : ChangeSpec := { name := "slotsTells", fn := fun _ => fun
  | [d1, d2] => { results := [.lit (.bool true)], args := [d1, d2] }
  | _ => none }
def slotsTellsRow : OpenClaim := { program := "ytiodlalfmeeemaa", sum := "566fc8f6b2694f79ef15797db654df6651724f5b77ff18cdfb2199515c8a60b6", func := "slipsheet/slipsheetlaw.SlotsTells", spec := "slotsTells", unfollowed := true, recurses := true, apart := false }
def SlotsTellsSaid : Prop := slotsTellsRow.holds Try.pinned (OpenSpec.ofChange slotsTellsSpec)

/-- ITS FALSE NEIGHBOUR: 'it returns false'. Refute it at one input. -/
def slotsTellsWrong : ChangeSpec := { name := "slotsTells", fn := fun _ => fun
  | [d1, d2] => { results := [.lit (.bool false)], args := [d1, d2] }
  | _ => none }
def SlotsTellsWrongFalsely : Prop := slotsTellsRow.holds Try.pinned (OpenSpec.ofChange slotsTellsWrong)

/-- 'slipsheetlaw.SlotsFree': WHATEVER THE INPUT: true; the input reads as it did. -/
def slotsFreeSpec : ChangeSpec := { name := "slotsFree", fn := fun _ => fun
  | [d] => { results := [.lit (.bool true)], args := [d] }
  | _ => none }
def slotsFreeRow : OpenClaim := { program := "ytiodlalfmeeemaa", sum := "566fc8f6b2694f79ef15797db654df6651724f5b77ff18cdfb2199515c8a60b6", func := "slipsheet/slipsheetlaw.SlotsFree", spec := "slotsFree", unfollowed := true, recurses := true, apart := false }
def SlotsFreeSaid : Prop := slotsFreeRow.holds Try.pinned (OpenSpec.ofChange slotsFreeSpec)

/-- ITS FALSE NEIGHBOUR: 'it returns false'. Refute it at one input. -/
def slotsFreeWrong : ChangeSpec := { name := "slotsFree", fn := fun _ => fun
  | [d] => { results := [.lit (.bool false)], args := [d] }
  | _ => none }
def SlotsFreeWrongFalsely : Prop := slotsFreeRow.holds Try.pinned (OpenSpec.ofChange slotsFreeWrong)

/-- 'slipsheetlaw.FlatTells': WHATEVER THE INPUT: true; the input reads as it did. -/
def flatTellsSpec : ChangeSpec := { name := "flatTells", fn := fun _ => fun
  | [d1, d2, d3, d4] => { results := [.lit (.bool true)], args := [d1, d2, d3, d4] }
  | _ => none }
def flatTellsRow : OpenClaim := { program := "ytiodlalfmeeemaa", sum := "566fc8f6b2694f79ef15797db654df6651724f5b77ff18cdfb2199515c8a60b6", func := "slipsheet/slipsheetlaw.FlatTells", spec := "flatTells", inPlace := ["internal/abi.NoEscape", "internal/bytealg.MakeNoZero"], apart := false }
def FlatTellsSaid : Prop := flatTellsRow.holds Try.pinned (OpenSpec.ofChange flatTellsSpec)

/-- ITS FALSE NEIGHBOUR: 'it returns false'. Refute it at one input. -/
def flatTellsWrong : ChangeSpec := { name := "flatTells", fn := fun _ => fun
  | [d1, d2, d3, d4] => { results := [.lit (.bool false)], args := [d1, d2, d3, d4] }
  | _ => none }
def FlatTellsWrongFalsely : Prop := flatTellsRow.holds Try.pinned (OpenSpec.ofChange flatTellsWrong)

/-- 'slipsheetlaw.FlatTrue': WHATEVER THE INPUT: true; the input reads as it did. -/
def flatTrueSpec : ChangeSpec := { name := "flatTrue", fn := fun _ => fun
  | [d1, d2, d3, d4, d5] => { results := [.lit (.bool true)], args := [d1, d2, d3, d4, d5] }
  | _ => none }
def flatTrueRow : OpenClaim := { program := "ytiodlalfmeeemaa", sum := "566fc8f6b2694f79ef15797db654df6651724f5b77ff18cdfb2199515c8a60b6", func := "slipsheet/slipsheetlaw.FlatTrue", spec := "flatTrue", inPlace := ["internal/abi.NoEscape", "internal/bytealg.MakeNoZero"], apart := false }
def FlatTrueSaid : Prop := flatTrueRow.holds Try.pinned (OpenSpec.ofChange flatTrueSpec)

/-- ITS FALSE NEIGHBOUR: 'it returns false'. Refute it at one input. -/
def flatTrueWrong : ChangeSpec := { name := "flatTrue", fn := fun _ => fun
  | [d1, d2, d3, d4, d5] => { results := [.lit (.bool false)], args := [d1, d2, d3, d4, d5] }
  | _ => none }
def FlatTrueWrongFalsely : Prop := flatTrueRow.holds Try.pinned (OpenSpec.ofChange flatTrueWrong)

/-- 'slipsheetlaw.PagesTells': WHATEVER THE INPUT: true; the input reads as it did. -/
def pagesTellsSpec : ChangeSpec := { name := "pagesTells", fn := fun _ => fun
  | [d1, d2] => { results := [.lit (.bool true)], args := [d1, d2] }
  | _ => none }
def pagesTellsRow : OpenClaim := { program := "ytiodlalfmeeemaa", sum := "566fc8f6b2694f79ef15797db654df6651724f5b77ff18cdfb2199515c8a60b6", func := "slipsheet/slipsheetlaw.PagesTells", spec := "pagesTells", inPlace := ["internal/abi.NoEscape", "internal/bytealg.MakeNoZero"], apart := false }
def PagesTellsSaid : Prop := pagesTellsRow.holds Try.pinned (OpenSpec.ofChange pagesTellsSpec)

/-- ITS FALSE NEIGHBOUR: 'it returns false'. Refute it at one input. -/
def pagesTellsWrong : ChangeSpec := { name := "pagesTells", fn := fun _ => fun
  | [d1, d2] => { results := [.lit (.bool false)], args := [d1, d2] }
  | _ => none }
def PagesTellsWrongFalsely : Prop := pagesTellsRow.holds Try.pinned (OpenSpec.ofChange pagesTellsWrong)

/-- 'slipsheetlaw.PagesPatches': WHATEVER THE INPUT: true; the input reads as it did. -/
def pagesPatchesSpec : ChangeSpec := { name := "pagesPatches", fn := fun _ => fun
  | [d1, d2, d3] => { results := [.lit (.bool true)], args := [d1, d2, d3] }
  | _ => none }
def pagesPatchesRow : OpenClaim := { program := "ytiodlalfmeeemaa", sum := "566fc8f6b2694f79ef15797db654df6651724f5b77ff18cdfb2199515c8a60b6", func := "slipsheet/slipsheetlaw.PagesPatches", spec := "pagesPatches", inPlace := ["internal/abi.NoEscape", "internal/bytealg.MakeNoZero"], apart := false }
def PagesPatchesSaid : Prop := pagesPatchesRow.holds Try.pinned (OpenSpec.ofChange pagesPatchesSpec)

/-- ITS FALSE NEIGHBOUR: 'it returns false'. Refute it at one input. -/
def pagesPatchesWrong : ChangeSpec := { name := "pagesPatches", fn := fun _ => fun
  | [d1, d2, d3] => { results := [.lit (.bool false)], args := [d1, d2, d3] }
  | _ => none }
def PagesPatchesWrongFalsely : Prop := pagesPatchesRow.holds Try.pinned (OpenSpec.ofChange pagesPatchesWrong)

/-- 'slipsheetlaw.PagesBack': WHATEVER THE INPUT: true; the input reads as it did. -/
def pagesBackSpec : ChangeSpec := { name := "pagesBack", fn := fun _ => fun
  | [d1, d2, d3, d4, d5] => { results := [.lit (.bool true)], args := [d1, d2, d3, d4, d5] }
  | _ => none }
def pagesBackRow : OpenClaim := { program := "ytiodlalfmeeemaa", sum := "566fc8f6b2694f79ef15797db654df6651724f5b77ff18cdfb2199515c8a60b6", func := "slipsheet/slipsheetlaw.PagesBack", spec := "pagesBack", inPlace := ["internal/abi.NoEscape", "internal/bytealg.MakeNoZero"], apart := false }
def PagesBackSaid : Prop := pagesBackRow.holds Try.pinned (OpenSpec.ofChange pagesBackSpec)

/-- ITS FALSE NEIGHBOUR: 'it returns false'. Refute it at one input. -/
def pagesBackWrong : ChangeSpec := { name := "pagesBack", fn := fun _ => fun
  | [d1, d2, d3, d4, d5] => { results := [.lit (.bool false)], args := [d1, d2, d3, d4, d5] }
  | _ => none }
def PagesBackWrongFalsely : Prop := pagesBackRow.holds Try.pinned (OpenSpec.ofChange pagesBackWrong)

/-- 'slipsheetlaw.EntryTells': WHATEVER THE INPUT: true; the input reads as it did. -/
def entryTellsSpec : ChangeSpec := { name := "entryTells", fn := fun _ => fun
  | [d1, d2, d3, d4] => { results := [.lit (.bool true)], args := [d1, d2, d3, d4] }
  | _ => none }
def entryTellsRow : OpenClaim := { program := "ytiodlalfmeeemaa", sum := "566fc8f6b2694f79ef15797db654df6651724f5b77ff18cdfb2199515c8a60b6", func := "slipsheet/slipsheetlaw.EntryTells", spec := "entryTells", inPlace := ["slices.overlaps[int]"], unfollowed := true, recurses := true, apart := false }
def EntryTellsSaid : Prop := entryTellsRow.holds Try.pinned (OpenSpec.ofChange entryTellsSpec)

/-- ITS FALSE NEIGHBOUR: 'it returns false'. Refute it at one input. -/
def entryTellsWrong : ChangeSpec := { name := "entryTells", fn := fun _ => fun
  | [d1, d2, d3, d4] => { results := [.lit (.bool false)], args := [d1, d2, d3, d4] }
  | _ => none }
def EntryTellsWrongFalsely : Prop := entryTellsRow.holds Try.pinned (OpenSpec.ofChange entryTellsWrong)

/-- 'slipsheetlaw.EntryTrue': WHATEVER THE INPUT: true; the input reads as it did. -/
def entryTrueSpec : ChangeSpec := { name := "entryTrue", fn := fun _ => fun
  | [d1, d2, d3, d4, d5, d6] => { results := [.lit (.bool true)], args := [d1, d2, d3, d4, d5, d6] }
  | _ => none }
def entryTrueRow : OpenClaim := { program := "ytiodlalfmeeemaa", sum := "566fc8f6b2694f79ef15797db654df6651724f5b77ff18cdfb2199515c8a60b6", func := "slipsheet/slipsheetlaw.EntryTrue", spec := "entryTrue", inPlace := ["slices.overlaps[int]"], unfollowed := true, recurses := true, apart := false }
def EntryTrueSaid : Prop := entryTrueRow.holds Try.pinned (OpenSpec.ofChange entryTrueSpec)

/-- ITS FALSE NEIGHBOUR: 'it returns false'. Refute it at one input. -/
def entryTrueWrong : ChangeSpec := { name := "entryTrue", fn := fun _ => fun
  | [d1, d2, d3, d4, d5, d6] => { results := [.lit (.bool false)], args := [d1, d2, d3, d4, d5, d6] }
  | _ => none }
def EntryTrueWrongFalsely : Prop := entryTrueRow.holds Try.pinned (OpenSpec.ofChange entryTrueWrong)

/- THE SECOND FORM. 'bulk': how many values and letters a reading holds, each counted each time it is reached (what is shared counts as often as it is met; a slice's spare places count too). A statement '..UptoSaid' is the law's where the arguments, and the package variables that the reading takes, are together of bulk at most 1048576: NARROWER than '..Said'. Prove '..Said' where nothing that the law and all that it calls make is longer than what came in: it says more and counts as full. Else prove '..UptoSaid'. A law counts once. -/
mutual
def uptoBulk {H : Type} : DataW H → Nat
  | .lit (.string bytes) => bytes.length + 1
  | .lit _ => 1
  | .nil => 1
  | .ptr d => uptoBulk d + 1
  | .slice elems spare => uptoBulkAll elems + uptoBulkAll spare + 1
  | .agg parts => uptoBulkAll parts + 1
  | .iface _ d => uptoBulk d + 1
  | .map entries => uptoBulkEntries entries + 1
  | .held _ => 1
def uptoBulkAll {H : Type} : List (DataW H) → Nat
  | [] => 0
  | d :: r => uptoBulk d + uptoBulkAll r
def uptoBulkEntries {H : Type} : List (Lit × DataW H) → Nat
  | [] => 0
  | x :: r => uptoBulkEntry x + uptoBulkEntries r
def uptoBulkEntry {H : Type} : Lit × DataW H → Nat
  | (.string bytes, d) => bytes.length + uptoBulk d + 1
  | (_, d) => uptoBulk d + 1
 end
def uptoSmall : (H : Type) → List (DataW H) → Bool := fun _ ds => decide (uptoBulkAll ds ≤ 1048576)
def OpenSpec.upto (s : _root_.Go.ChangeSpec) : _root_.Go.OpenSpec := { _root_.Go.OpenSpec.ofChange s with cond := some uptoSmall }

/-- 'slipsheetlaw.SlotsTells', WHERE WHAT IT READS IS OF BULK AT MOST 1048576: true; the input reads as it did. -/
def slotsTellsUptoRow : OpenClaim := { program := "ytiodlalfmeeemaa", sum := "566fc8f6b2694f79ef15797db654df6651724f5b77ff18cdfb2199515c8a60b6", func := "slipsheet/slipsheetlaw.SlotsTells", spec := "slotsTells", unfollowed := true, recurses := true, apart := false, narrowed := true }
def SlotsTellsUptoSaid : Prop := slotsTellsUptoRow.holds Try.pinned (OpenSpec.upto slotsTellsSpec)

/-- 'slipsheetlaw.SlotsFree', WHERE WHAT IT READS IS OF BULK AT MOST 1048576: true; the input reads as it did. -/
def slotsFreeUptoRow : OpenClaim := { program := "ytiodlalfmeeemaa", sum := "566fc8f6b2694f79ef15797db654df6651724f5b77ff18cdfb2199515c8a60b6", func := "slipsheet/slipsheetlaw.SlotsFree", spec := "slotsFree", unfollowed := true, recurses := true, apart := false, narrowed := true }
def SlotsFreeUptoSaid : Prop := slotsFreeUptoRow.holds Try.pinned (OpenSpec.upto slotsFreeSpec)

/-- 'slipsheetlaw.FlatTells', WHERE WHAT IT READS IS OF BULK AT MOST 1048576: true; the input reads as it did. -/
def flatTellsUptoRow : OpenClaim := { program := "ytiodlalfmeeemaa", sum := "566fc8f6b2694f79ef15797db654df6651724f5b77ff18cdfb2199515c8a60b6", func := "slipsheet/slipsheetlaw.FlatTells", spec := "flatTells", inPlace := ["internal/abi.NoEscape", "internal/bytealg.MakeNoZero"], apart := false, narrowed := true }
def FlatTellsUptoSaid : Prop := flatTellsUptoRow.holds Try.pinned (OpenSpec.upto flatTellsSpec)

/-- 'slipsheetlaw.FlatTrue', WHERE WHAT IT READS IS OF BULK AT MOST 1048576: true; the input reads as it did. -/
def flatTrueUptoRow : OpenClaim := { program := "ytiodlalfmeeemaa", sum := "566fc8f6b2694f79ef15797db654df6651724f5b77ff18cdfb2199515c8a60b6", func := "slipsheet/slipsheetlaw.FlatTrue", spec := "flatTrue", inPlace := ["internal/abi.NoEscape", "internal/bytealg.MakeNoZero"], apart := false, narrowed := true }
def FlatTrueUptoSaid : Prop := flatTrueUptoRow.holds Try.pinned (OpenSpec.upto flatTrueSpec)

/-- 'slipsheetlaw.PagesTells', WHERE WHAT IT READS IS OF BULK AT MOST 1048576: true; the input reads as it did. -/
def pagesTellsUptoRow : OpenClaim := { program := "ytiodlalfmeeemaa", sum := "566fc8f6b2694f79ef15797db654df6651724f5b77ff18cdfb2199515c8a60b6", func := "slipsheet/slipsheetlaw.PagesTells", spec := "pagesTells", inPlace := ["internal/abi.NoEscape", "internal/bytealg.MakeNoZero"], apart := false, narrowed := true }
def PagesTellsUptoSaid : Prop := pagesTellsUptoRow.holds Try.pinned (OpenSpec.upto pagesTellsSpec)

/-- 'slipsheetlaw.PagesPatches', WHERE WHAT IT READS IS OF BULK AT MOST 1048576: true; the input reads as it did. -/
def pagesPatchesUptoRow : OpenClaim := { program := "ytiodlalfmeeemaa", sum := "566fc8f6b2694f79ef15797db654df6651724f5b77ff18cdfb2199515c8a60b6", func := "slipsheet/slipsheetlaw.PagesPatches", spec := "pagesPatches", inPlace := ["internal/abi.NoEscape", "internal/bytealg.MakeNoZero"], apart := false, narrowed := true }
def PagesPatchesUptoSaid : Prop := pagesPatchesUptoRow.holds Try.pinned (OpenSpec.upto pagesPatchesSpec)

/-- 'slipsheetlaw.PagesBack', WHERE WHAT IT READS IS OF BULK AT MOST 1048576: true; the input reads as it did. -/
def pagesBackUptoRow : OpenClaim := { program := "ytiodlalfmeeemaa", sum := "566fc8f6b2694f79ef15797db654df6651724f5b77ff18cdfb2199515c8a60b6", func := "slipsheet/slipsheetlaw.PagesBack", spec := "pagesBack", inPlace := ["internal/abi.NoEscape", "internal/bytealg.MakeNoZero"], apart := false, narrowed := true }
def PagesBackUptoSaid : Prop := pagesBackUptoRow.holds Try.pinned (OpenSpec.upto pagesBackSpec)

/-- 'slipsheetlaw.EntryTells', WHERE WHAT IT READS IS OF BULK AT MOST 1048576: true; the input reads as it did. -/
def entryTellsUptoRow : OpenClaim := { program := "ytiodlalfmeeemaa", sum := "566fc8f6b2694f79ef15797db654df6651724f5b77ff18cdfb2199515c8a60b6", func := "slipsheet/slipsheetlaw.EntryTells", spec := "entryTells", inPlace := ["slices.overlaps[int]"], unfollowed := true, recurses := true, apart := false, narrowed := true }
def EntryTellsUptoSaid : Prop := entryTellsUptoRow.holds Try.pinned (OpenSpec.upto entryTellsSpec)

/-- 'slipsheetlaw.EntryTrue', WHERE WHAT IT READS IS OF BULK AT MOST 1048576: true; the input reads as it did. -/
def entryTrueUptoRow : OpenClaim := { program := "ytiodlalfmeeemaa", sum := "566fc8f6b2694f79ef15797db654df6651724f5b77ff18cdfb2199515c8a60b6", func := "slipsheet/slipsheetlaw.EntryTrue", spec := "entryTrue", inPlace := ["slices.overlaps[int]"], unfollowed := true, recurses := true, apart := false, narrowed := true }
def EntryTrueUptoSaid : Prop := entryTrueUptoRow.holds Try.pinned (OpenSpec.upto entryTrueSpec)

end Rows
end Go.Proofs.Ytiodlalfmeeemaa
