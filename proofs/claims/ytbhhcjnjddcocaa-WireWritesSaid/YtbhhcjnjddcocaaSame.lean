/- The reference's SamePages and SameInts. Conditions: both lists are read in blocks below the heap's size. -/
import Derived.Test.YtbhhcjnjddcocaaMemA
import Derived.Test.YtbhhcjnjddcocaaPureA
namespace Go.Proofs.Ytbhhcjnjddcocaa
open Go.RowKit Sl

theorem toList_inj {s t : ByteArray} (h : (s.toList == t.toList) = true) : s = t := by
  rw [beq_iff_eq, ByteArray.toList_eq, ByteArray.toList_eq] at h
  apply ByteArray.ext
  exact Array.toList_inj.1 h
theorem toList_ne {s t : ByteArray} (h : (s.toList == t.toList) = false) : s ≠ t := by
  rintro rfl; simp at h
theorem same_false {α : Type} {a b : List α} (k : Nat) {s t : α} (ha : a[k]? = some s) (hb : b[k]? = some t) (hne : s ≠ t) : a ≠ b := by
  rintro rfl; rw [ha] at hb; exact hne (Option.some.inj hb)
theorem same_true {α : Type} {a b : List α} (hl : a.length = b.length) (k : Nat) (hk : a.length ≤ k) (h : a.take k = b.take k) : a = b := by
  rw [List.take_of_length_le hk, List.take_of_length_le (by omega)] at h; exact h
theorem take_succ_same {α : Type} {a b : List α} {k : Nat} {s t : α} (ha : a[k]? = some s) (hb : b[k]? = some t) (hs : s = t) (h : a.take k = b.take k) : a.take (k + 1) = b.take (k + 1) := by
  rw [List.take_add_one, List.take_add_one, ha, hb, h, hs]

set_option maxRecDepth 100000 in
set_option maxHeartbeats 400000 in
theorem sameInts_any (A A2 : Option Addr) (n n2 c c2 : Nat) (l l2 : List Int) (w : World) (h : Rd w w.heap.size 1 A n (ints l)) (h2 : Rd w w.heap.size 1 A2 n2 (ints l2)) (hc : n ≤ 4611686018427387903) (hc2 : n2 ≤ 4611686018427387903) :
    Calls Try.prog 25 #[.slice A n c, .slice A2 n2 c2] w fun e w' => e = .returned (.bool (decide (l = l2))) ∧ Below w.heap.size w w' := by
  have hl : l.length = n := by have := h.1; simp [ints] at this; omega
  have hl2 : l2.length = n2 := by have := h2.1; simp [ints] at this; omega
  have L1 := Lib.hid hl
  have L2 := Lib.hid hl2
  clear hl hl2
  by_cases hnn : n = n2
  · subst hnn
    go_enter Try.func25, Try.ntmps25
    go_wp2_with fail
    go_loopw [5] (fun i wr => ∃ k : Nat, k ≤ n ∧ i = .int .i64 k ∧ l.take k = l2.take k ∧ Below w.heap.size w wr) (fun i _ => n - (intOf i).toNat)
    case atStart => exact ⟨0, Nat.zero_le _, rfl, rfl, Below.refl _ _⟩
    case round =>
      obtain ⟨k, hkn, rfl, ha, hbw⟩ := hrel
      have HA := Lib.hid ha
      clear ha
      by_cases hlt : k < n
      · obtain ⟨b, o, rfl, hb, hcell⟩ := (h.below hbw (Nat.le_refl _)).2 (by omega)
        obtain ⟨b2, o2, rfl, hb2, hcell2⟩ := (h2.below hbw (Nat.le_refl _)).2 (by omega)
        have k1 : k < l.length := by rw [L1.out]; exact hlt
        have k2 : k < l2.length := by rw [L2.out]; exact hlt
        have c1 := hcell k (.int .i64 l[k]) (by simp [ints, k1])
        have c2 := hcell2 k (.int .i64 l2[k]) (by simp [ints, k2])
        have x1 : l[k]? = some l[k] := List.getElem?_eq_getElem k1
        have x2 : l2[k]? = some l2[k] := List.getElem?_eq_getElem k2
        generalize l[k] = s at c1 x1
        generalize l2[k] = s2 at c2 x2
        have X1 := Lib.hid x1
        have X2 := Lib.hid x2
        have i1 : (0 : Int) ≤ k := by omega
        have i2 : (k : Int) < n := by omega
        clear x1 x2 hcell hcell2 k1 k2 h h2
        cases hp : (s != s2)
        · go_wp2_with fail
          go_quiet (fail)
          go_wp2_with fail
          go_roundw
          case rel => exact ⟨k + 1, by omega, by go_num, take_succ_same X1.out X2.out (by simpa using hp) HA.out, ⟨hbw.os, hbw.tape, hbw.output, hbw.size, hbw.block⟩⟩
          case measure => simp [intOf]; omega
        · go_wp2_with fail
          go_quiet (fail)
          go_wp2_with fail
          go_ret
          exact ⟨ret_bool (decide_eq_false (same_false k X1.out X2.out (by simpa using hp))), ⟨hbw.os, hbw.tape, hbw.output, hbw.size, hbw.block⟩⟩
      · go_wp2_with fail
        go_ret
        exact ⟨ret_bool (decide_eq_true (same_true (by rw [L1.out, L2.out]) k (by rw [L1.out]; omega) HA.out)), hbw⟩
  · have g : ((n : Int) != n2) = true := by simp; omega
    go_enter Try.func25, Try.ntmps25
    go_wp2_with fail
    go_ret
    exact ⟨ret_bool (decide_eq_false (by rintro rfl; exact hnn (by rw [← L1.out, ← L2.out]))), Below.refl _ _⟩
end Go.Proofs.Ytbhhcjnjddcocaa
