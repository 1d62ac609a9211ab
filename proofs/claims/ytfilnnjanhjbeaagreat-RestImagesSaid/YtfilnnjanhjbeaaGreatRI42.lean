/- Texts of the proof of restImages_holds: StkP, PureU, PurePk2. Conditions: as each text says. -/
import Derived.Test.YtfilnnjanhjbeaaGreatRI33
import Derived.Test.YtfilnnjanhjbeaaGreatRI40
namespace Sl
def freshI (g : Int) : Img := ⟨g, List.replicate (wants g).toNat 0, [freeSlot], [0], []⟩
end Sl
namespace Go.Proofs.YtfilnnjanhjbeaaGreat
open Sl
section
variable {m : Img}
end
def packI (m : Img) : Img := if checkErr m = 0 then packM m else noImg
theorem packI_ok {m : Img} (h : checkErr m = 0) : packI m = packM m := by unfold packI; rw [if_pos h]
theorem packI_no {m : Img} (h : checkErr m ≠ 0) : packI m = noImg := by unfold packI; rw [if_neg h]
end Go.Proofs.YtfilnnjanhjbeaaGreat
