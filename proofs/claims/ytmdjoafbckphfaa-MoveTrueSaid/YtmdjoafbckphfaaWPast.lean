/- The law WritesPast. Conditions: the image is read below the heap's size. (Printed by gen_wpast.py.) -/
import Derived.Test.YtmdjoafbckphfaaPureY
import Derived.Test.YtmdjoafbckphfaaReads1
import Derived.Test.YtmdjoafbckphfaaSame
namespace Go.Proofs.Ytmdjoafbckphfaa
open Go.RowKit Sl
theorem pastV_len (m : Img) (name : ByteArray) : (pastV m name).length ≤ 16 := by
  by_cases hm : checkErr m = 0
  · by_cases hn : m.snaps.any (named name) = true
    · obtain ⟨k, s, _, hs, _, _, _, e⟩ := past_ok hm hn
      rw [e, allV_len]
      have := (snap_facts hm hs).2.1
      omega
    · rw [(past_none hm (by simpa using hn)).2.1]; exact Nat.zero_le _
  · rw [(past_no hm).2]; exact Nat.zero_le _
theorem own_strsW {w : World} {base n c : Nat} {A : Option Addr} {l : List ByteArray} (h : w.ownsRow base 9 1 (.slice A n c) n (l.map Value.string)) (hl : l.length ≤ 16) : n ≤ 4611686018427387903 ∧ Rd w w.heap.size 1 A n (l.map Value.string) := ⟨by have := h.1; simp at this; omega, Rd.of_own h⟩
end Go.Proofs.Ytmdjoafbckphfaa
