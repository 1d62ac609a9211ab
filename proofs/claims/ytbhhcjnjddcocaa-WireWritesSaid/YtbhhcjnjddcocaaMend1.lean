/- mend.Leaks, mend.Repair, the reference's LeaksOf. Conditions: the image is read below the heap's size. -/
import Derived.Test.YtbhhcjnjddcocaaOwnT
import Derived.Test.YtbhhcjnjddcocaaPureM
namespace Go.Proofs.Ytbhhcjnjddcocaa
open Go.RowKit Sl

/-- What a function answers that makes an image, and an error. -/
def ImgPair (base : Nat) (m : Img) (er : Int) (w : World) (e : Ending) (w' : World) : Prop := ∃ v', e = .returned (.tuple #[imgV m v', .int .i64 er]) ∧ ImgR w' w'.heap.size v' m ∧ Below base w w'
def noImg : Img := ⟨0, [], [], [], []⟩
def noV : IV := ⟨none, 0, 0, none, 0, 0, none, 0, 0, none, 0, 0⟩
theorem noImg_R (w : World) : ImgR w w.heap.size noV noImg :=
  ⟨Rd.none_, Nat.le_refl _, by show 0 ≤ _ ∧ 0 ≤ _; omega, SlotsR.none_, Nat.le_refl _, by show 0 ≤ _ ∧ 0 ≤ _; omega, Rd.none_, Nat.le_refl _, by show 0 ≤ _ ∧ 0 ≤ _; omega, SnapsR.none_, Nat.le_refl _, by show 0 ≤ _ ∧ 0 ≤ _; omega⟩
def repairV (m : Img) : Img := if shapeErr m = 0 then settled m else noImg

end Go.Proofs.Ytbhhcjnjddcocaa
