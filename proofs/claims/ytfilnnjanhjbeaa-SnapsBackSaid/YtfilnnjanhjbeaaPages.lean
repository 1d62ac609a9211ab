/- pages.Check, Zero, and the reference's. Conditions: the pages are read in blocks below the heap's size. -/
import Derived.Test.YtfilnnjanhjbeaaMemA
import Derived.Test.YtfilnnjanhjbeaaPureA
import Derived.Test.YtfilnnjanhjbeaaShelf
import Derived.Test.YtfilnnjanhjbeaaSlotsA
namespace Go.Proofs.Ytfilnnjanhjbeaa
open Go.RowKit Sl

theorem zero_any (w : World) : Calls Try.prog 88 #[] w fun e w' => e = .returned (.string zeroP) ∧ Below w.heap.size w w' := by
  have hr := Try.strings_Repeat_main { data := #[0] } 4 w (by decide) (by decide) (by decide) (by decide)
  have e1 : (⟨(Lib.repeatL ({ data := #[0] } : ByteArray).data.toList 4).toArray⟩ : ByteArray) = zeroP := by decide +kernel
  rw [e1] at hr
  have HR := Lib.hid hr
  clear hr e1
  go_enter Try.func88, Try.ntmps88
  go_wp2_with (go_at_call 95; refine HR.out.mono ?_; rintro e w' ⟨rfl, hb⟩)
  go_ret
  exact ⟨rfl, hb⟩

theorem flatRead_no {l : List ByteArray} {n : Int} (h : pagesErr l ≠ 0) : flatReadE l n = pagesErr l ∧ flatReadV l n = noP := by
  have : flatReadE l n = pagesErr l := by unfold flatReadE; rw [if_neg h]
  exact ⟨this, by unfold flatReadV; rw [this, if_neg h]⟩
theorem flatRead_out {l : List ByteArray} {n : Int} (h : pagesErr l = 0) (hn : ¬ (0 ≤ n ∧ n < l.length)) : flatReadE l n = 3 ∧ flatReadV l n = noP := by
  have : flatReadE l n = 3 := by unfold flatReadE; rw [if_pos h, if_neg hn]
  exact ⟨this, by unfold flatReadV; rw [this, if_neg (by decide)]⟩
theorem flatRead_ok {l : List ByteArray} {k : Nat} {s : ByteArray} (h : pagesErr l = 0) (hs : l[k]? = some s) : flatReadE l k = 0 ∧ flatReadV l k = s := by
  have hk : k < l.length := (List.getElem?_eq_some_iff.1 hs).1
  have : flatReadE l k = 0 := by unfold flatReadE; rw [if_pos h, if_pos (by omega)]
  exact ⟨this, by unfold flatReadV; rw [this, if_pos rfl, Int.toNat_natCast, List.getD_eq_getElem?_getD, hs]; rfl⟩

end Go.Proofs.Ytfilnnjanhjbeaa
