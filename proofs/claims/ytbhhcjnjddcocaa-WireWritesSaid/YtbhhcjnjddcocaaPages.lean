/- pages.Check, Zero, and the reference's. Conditions: the pages are read in blocks below the heap's size. -/
import Derived.Test.YtbhhcjnjddcocaaMemA
import Derived.Test.YtbhhcjnjddcocaaPureA
import Derived.Test.YtbhhcjnjddcocaaShelf
import Derived.Test.YtbhhcjnjddcocaaSlotsA
namespace Go.Proofs.Ytbhhcjnjddcocaa
open Go.RowKit Sl

theorem flatRead_no {l : List ByteArray} {n : Int} (h : pagesErr l ≠ 0) : flatReadE l n = pagesErr l ∧ flatReadV l n = noP := by
  have : flatReadE l n = pagesErr l := by unfold flatReadE; rw [if_neg h]
  exact ⟨this, by unfold flatReadV; rw [this, if_neg h]⟩
theorem flatRead_out {l : List ByteArray} {n : Int} (h : pagesErr l = 0) (hn : ¬ (0 ≤ n ∧ n < l.length)) : flatReadE l n = 3 ∧ flatReadV l n = noP := by
  have : flatReadE l n = 3 := by unfold flatReadE; rw [if_pos h, if_neg hn]
  exact ⟨this, by unfold flatReadV; rw [this, if_neg (by decide)]⟩
theorem flatRead_ok {l : List ByteArray} {k : Nat} {s : ByteArray} (h : pagesErr l = 0) (hs : l[k]? = some s) : flatReadE l k = 0 ∧ flatReadV l k = s := by
  have hk : k < l.length := (List.getElem?_eq_some_iff.1 hs).1
  have : flatReadE l k = 0 := by unfold flatReadE; rw [if_pos h, if_pos (by omega)]
  exact ⟨this, by unfold flatReadV; rw [this, if_pos rfl, Int.toNat_natCast, List.getD_eq_getElem?_getD, hs]; rfl⟩

end Go.Proofs.Ytbhhcjnjddcocaa
