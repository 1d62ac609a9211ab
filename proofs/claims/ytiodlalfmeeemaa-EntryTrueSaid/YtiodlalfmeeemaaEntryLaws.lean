/- The laws EntryTells and EntryTrue, walked. Conditions: the slice is read below the heap's size. -/
import Derived.Test.YtiodlalfmeeemaaEntryW
namespace Go.Proofs.Ytiodlalfmeeemaa
open Go.RowKit Sl

set_option maxRecDepth 100000 in
set_option maxHeartbeats 1000000 in
theorem law_entryTells (A : Option Addr) (n c : Nat) (t : List Int) (k e m : Int) (w : World) (h : GotI w A n t) (hn : n ≤ c) (hc : n ≤ 4611686018427387903) :
    Calls Try.prog 10 #[.slice A n c, .int .i64 k, .int .i64 e, .int .i64 m] w fun e w' => e = .returned (.bool true) ∧ Below w.heap.size w w' := by
  have HB0 := Below.refl w.heap.size w
  have hml : n ≤ maxLen := by unfold maxLen; omega
  have K1' := fun W (hb : Below w.heap.size w W) => ebare_any A n c W.heap.size t W (h.next hb) hml
  have K2' := fun W (hb : Below w.heap.size w W) => ewith_any A n c t k e W (h.next hb) hml
  have K3' := fun W (hb : Below w.heap.size w W) => ecut_any A n c t m W (h.next hb) hn hml
  have K4' := fun W (hb : Below w.heap.size w W) => rcheck_any A n c W.heap.size t W (h.next hb) hml
  have K5' := fun W (hb : Below w.heap.size w W) => rwith_any A n c t k e W (h.next hb) hml
  have K6' := fun W (hb : Below w.heap.size w W) => rcut_any A n c t m W (h.next hb) hml
  have K7' := fun W (hb : Below w.heap.size w W) => echeck_any A n c W.heap.size t W (h.next hb) hml
  have K8' := fun W (hb : Below w.heap.size w W) => rBare_any A n c W.heap.size t W (h.next hb) hml
  have z1 := withV_len t k e
  have z2 := cutV_len t m
  have hbn : bareAns t = ((entriesErr t == 0) && bare t) := rfl
  generalize bareAns t = ba at *
  generalize bare t = bt at *
  generalize withV t k e = v1 at *
  generalize withE t k e = e1 at *
  generalize cutV t m = v2 at *
  generalize cutE t m = e2 at *
  generalize entriesErr t = er at *
  have K1 := Lib.hid K1'; have K2 := Lib.hid K2'; have K3 := Lib.hid K3'; have K4 := Lib.hid K4'; have K5 := Lib.hid K5'; have K6 := Lib.hid K6'; have K7 := Lib.hid K7'; have K8 := Lib.hid K8'
  clear K1' K2' K3' K4' K5' K6' K7' K8' h hn hc hml
  have hcase : (ba == ((er == 0) && bt)) = true := by rw [hbn]; simp
  cases he : (er == 0)
  all_goals
    rw [he] at hbn hcase
    simp only [Bool.true_and, Bool.false_and] at hbn hcase
    have HBN := Lib.hid hbn
    clear hbn
    go_enter Try.func10, Try.ntmps10
    go_wp2_with fail
    refine (K1.out _ HB0).mono ?_
    rintro e w1 ⟨rfl, rfl⟩
    go_wp2_with fail
    refine (K2.out _ HB0).mono ?_
    rintro e w1 ⟨A1, n1, c1, rfl, ho1, hb1, hc1, hm1⟩
    have n1le : n1 ≤ 4611686018427387903 := by have := ho1.1; simp [ints] at this; omega
    have r1 : GotI w1 A1 n1 v1 := Rd.of_own ho1
    have HB1 := HB0.trans hb1
    clear ho1 hb1
    go_wp2_with fail
    refine (K3.out _ HB1).mono ?_
    rintro e w2 ⟨A2, n2, c2, rfl, ho2, hb2, hc2, hm2⟩
    have n2le : n2 ≤ 4611686018427387903 := by have := ho2.1; simp [ints] at this; omega
    have r2 : GotI w2 A2 n2 v2 := Rd.of_own ho2
    have r1 := r1.next hb2
    have HB2 := below_next HB1 hb2
    clear ho2 hb2
    go_wp2_with fail
    refine (K4.out _ HB2).mono ?_
    rintro e w' ⟨rfl, rfl⟩
    go_wp2_with fail
    refine (K5.out _ HB2).mono ?_
    rintro e w3 ⟨A3, n3, c3, rfl, ho3, hb3, hc3, hm3⟩
    have n3le : n3 ≤ 4611686018427387903 := by have := ho3.1; simp [ints] at this; omega
    have r3 : GotI w3 A3 n3 v1 := Rd.of_own ho3
    have r1 := r1.next hb3
    have r2 := r2.next hb3
    have HB3 := below_next HB2 hb3
    clear ho3 hb3
    go_wp2_with fail
    refine (K6.out _ HB3).mono ?_
    rintro e w4 ⟨A4, n4, c4, rfl, ho4, hb4, hc4, hm4⟩
    have n4le : n4 ≤ 4611686018427387903 := by have := ho4.1; simp [ints] at this; omega
    have r4 : GotI w4 A4 n4 v2 := Rd.of_own ho4
    have r1 := r1.next hb4
    have r2 := r2.next hb4
    have r3 := r3.next hb4
    have HB4 := below_next HB3 hb4
    clear ho4 hb4
    go_wp2_with fail
    refine (entryBegun_any _).mono ?_
    rintro e w5 ⟨rfl, hb5⟩
    have r1 := r1.next hb5
    have r2 := r2.next hb5
    have r3 := r3.next hb5
    have r4 := r4.next hb5
    have HB5 := below_next HB4 hb5
    clear hb5
    go_wp2_with fail
    refine (K7.out _ HB5).mono ?_
    rintro e w' ⟨rfl, rfl⟩
    go_wp2_with fail
    try
      refine (K8.out _ HB5).mono ?_
      rintro e w' ⟨rfl, rfl⟩
      go_wp2_with fail
    refine (sameInts_any A1 A3 n1 n3 c1 c3 v1 v1 _ r1 r3 n1le n3le).mono ?_
    rintro e w6 ⟨rfl, hb6⟩
    have r2 := r2.next hb6
    have r4 := r4.next hb6
    have HB6 := below_next HB5 hb6
    clear hb6
    go_wp2_with fail
    refine (sameInts_any A2 A4 n2 n4 c2 c4 v2 v2 _ r2 r4 n2le n4le).mono ?_
    rintro e w7 ⟨rfl, hb7⟩
    have HB7 := below_next HB6 hb7
    clear hb7
    go_wp2_with fail
    go_ret
    exact ⟨rfl, HB7⟩
end Go.Proofs.Ytiodlalfmeeemaa
