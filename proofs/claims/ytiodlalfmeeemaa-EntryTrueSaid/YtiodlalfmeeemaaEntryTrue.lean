/- The law EntryTrue, walked. Conditions: the slice is read below the heap's size. -/
import Derived.Test.YtiodlalfmeeemaaEntryLaws
import Derived.Test.YtiodlalfmeeemaaPureE2
namespace Go.Proofs.Ytiodlalfmeeemaa
open Go.RowKit Sl

theorem choose_any (x n : Int) (w : World) (hx : -9223372036854775808 ≤ x) (hx' : x ≤ 9223372036854775807) (hn : 0 < n) (hn' : n ≤ 4611686018427387903) : Calls Try.prog 49 #[.int .i64 x, .int .i64 n] w
    fun e w' => e = .returned (.int .i64 (chooseOf x n)) ∧ w = w' := by
  by_cases h : x < 0
  · have hv := Lib.hid (show chooseOf x n = (-(x + 1)) % n from by unfold chooseOf; rw [if_pos h])
    have g1 : -9223372036854775808 ≤ x + 1 := by omega
    have g2 : 0 ≤ -(x + 1) := by omega
    go_enter Try.func49, Try.ntmps49
    go_wp2
    go_ret
    exact ⟨ret_int (by rw [hv.out]; rw [← Int.neg_tmod, Int.tmod_eq_emod_of_nonneg g2]), rfl⟩
  · have hv := Lib.hid (show chooseOf x n = x % n from by unfold chooseOf; rw [if_neg h])
    have g2 : 0 ≤ x := by omega
    go_enter Try.func49, Try.ntmps49
    go_wp2
    go_ret
    exact ⟨ret_int (by rw [hv.out]), rfl⟩

set_option maxRecDepth 100000 in
set_option maxHeartbeats 8000000 in
theorem law_entryTrue (A : Option Addr) (n c : Nat) (t : List Int) (x1 x2 x3 x4 x5 : Int) (w : World) (h : GotI w A n t) (hn : n ≤ c) (hc : n ≤ 4611686018427387903) (i1 : -9223372036854775808 ≤ x3) (i2 : x3 ≤ 9223372036854775807) :
    Calls Try.prog 11 #[.slice A n c, .int .i64 x1, .int .i64 x2, .int .i64 x3, .int .i64 x4, .int .i64 x5] w fun e w' => e = .returned (.bool true) ∧ Below w.heap.size w w' := by
  have HB0 := Below.refl w.heap.size w
  have hml : n ≤ maxLen := by unfold maxLen; omega
  have K1 := fun W (hb : Below w.heap.size w W) => ewith_any A n c t x1 x2 W (h.next hb) hml
  have KC := Lib.hid (fun (y : Int) W (hb : Below w.heap.size w W) => ecut_any A n c t y W (h.next hb) hn hml)
  have HT := Lib.hid (fun W (hb : Below w.heap.size w W) => h.next hb)
  have LT := Lib.hid (show t.length ≤ 4611686018427387903 from by have := h.len; omega)
  by_cases he : withE t x1 x2 = 0
  · obtain ⟨h0, k1, k2, hf⟩ := with_is he
    obtain ⟨k, rfl⟩ := Int.eq_ofNat_of_zero_le k1
    have hk4 : k < 4 := by omega
    obtain ⟨_, hv⟩ := with_ok (k := k) h0 hk4 hf
    have l4 := (entriesErr_is h0).1
    have hln := h.len
    obtain rfl : n = 4 := by omega
    rw [he, hv] at K1
    obtain ⟨j0, j1⟩ := chooseOf_in x3 4 (by omega)
    have HJ := fun W => choose_any x3 4 W i1 i2 (by omega) (by omega)
    obtain ⟨j, hj⟩ := Int.eq_ofNat_of_zero_le j0
    rw [hj] at HJ j1
    have hj4 : j < 4 := by omega
    obtain ⟨b, o, u, rfl, hbl, hx, hcell⟩ := h.at1 (k := j) hj4
    have HCELL := Lib.hid hcell
    by_cases hjk : j = k
    · subst hjk
      have HJ1 := Lib.hid HJ; have H1 := Lib.hid K1
      have gjk : ((j : Int) != (j : Int)) = false := by simp
      have HL4 := Lib.hid l4
      clear HJ K1 h he h0 hv l4 hln hj hx hcell hf k1 k2 j0 j1
      go_enter Try.func11, Try.ntmps11
      go_wp2_with fail
      refine (H1.out _ HB0).mono ?_
      rintro e w1 ⟨A1, n1, c1, rfl, ho1, hb1, hc1, hm1⟩
      obtain rfl : n1 = 4 := by have := ho1.1; simp [ints] at this; have := HL4.out; omega
      obtain ⟨g, rfl, hg1, hg2⟩ := own_some_ ho1 (by omega)
      have hc2 := ho1.cellAt j (by omega)
      have hget : (ints (t.set j x2))[j]? = some (.int .i64 x2) := by unfold ints; rw [List.getElem?_map, List.getElem?_set_self (by rw [HL4.out]; exact hj4)]; rfl
      rw [hget] at hc2
      have HB1 := HB0.trans hb1
      clear ho1 hb1 hget
      go_wp2_with fail
      refine (HJ1.out _).mono ?_
      rintro e w' ⟨rfl, rfl⟩
      go_wp2_with fail
      have a3 : (0 : Int) ≤ (j : Int) := by omega
      have a4 : (j : Int) < 4 := by omega
      have a5 : decide ((j : Int) < 0) = false := by simp
      have a6 : decide (4 ≤ (j : Int)) = false := by simp; omega
      go_quiet (fail)
      rename_i nq
      have HB1 : Below w.heap.size w (w1.drewN nq) := below_drewN HB1 _
      clear hc2 hg1 hg2 gjk
      by_cases hcut : cutE t x4 = 0 ∧ cutE t x5 = 0
      · obtain ⟨q1, q2⟩ := hcut
        obtain ⟨_, a1, a2⟩ := cut_is q1
        obtain ⟨he0, b1, b2⟩ := cut_is q2
        obtain ⟨ca, rfl⟩ := Int.eq_ofNat_of_zero_le a1
        obtain ⟨cb, rfl⟩ := Int.eq_ofNat_of_zero_le b1
        obtain ⟨f1, f2, f3, f4, f5, f6, f7, f8, f9, f10⟩ := cut_facts (a := ca) (b := cb) he0 (by omega) (by omega)
        rcases Nat.lt_or_ge cb ca with hab | hab
        · rw [Nat.min_eq_right (by omega)] at f4 f5 f6
          have hab' : (cb : Int) < (ca : Int) := by omega
          have K3 := KC.out ca
          have K4 := KC.out cb
          rw [q1, f1] at K3
          rw [q2, f2] at K4
          have K6 := KC.out cb
          rw [f5, f6] at K6
          have K8 := KC.out 4
          rw [f9, f10] at K8
          have K5 := fun (W : World) (A : Option Addr) (n c : Nat) (h : GotI W A n (cutL t ca)) (hn : n ≤ c) (hm : n ≤ maxLen) => ecut_any A n c (cutL t ca) (cb : Nat) W h hn hm
          rw [f3, f4] at K5
          have K7 := fun (W : World) (A : Option Addr) (n c : Nat) (h : GotI W A n (cutL t cb)) (hn : n ≤ c) (hm : n ≤ maxLen) => ecut_any A n c (cutL t cb) 0 W h hn hm
          rw [f7, f8] at K7
          have z1 : (cutL t ca).length ≤ 4 := by rw [← f1]; exact cutV_len t ca
          have z2 : (cutL t cb).length ≤ 4 := by rw [← f2]; exact cutV_len t cb
          generalize cutL t ca = va at *
          generalize cutL t cb = vb at *
          have H3 := Lib.hid K3; have H4 := Lib.hid K4; have H5 := Lib.hid K5; have H6 := Lib.hid K6; have H7 := Lib.hid K7; have H8 := Lib.hid K8
          clear K3 K4 K5 K6 K7 K8 q1 q2 f1 f2 f3 f4 f5 f6 f7 f8 f9 f10 he0
          go_wp2_with fail
          refine (H3.out _ HB1).mono ?_
          rintro e w2 ⟨A2, n2, c2, rfl, ho2, hb2, hc2, hm2⟩
          have r2 : GotI w2 A2 n2 va := Rd.of_own ho2
          have l2 : n2 ≤ maxLen := Nat.le_trans hc2 hm2
          have HB2 := below_next HB1 hb2
          clear ho2 hb2 hm2
          go_wp2_with fail
          refine (H4.out _ HB2).mono ?_
          rintro e w3 ⟨A3, n3, c3, rfl, ho3, hb3, hc3, hm3⟩
          have r3 : GotI w3 A3 n3 vb := Rd.of_own ho3
          have l3 : n3 ≤ maxLen := Nat.le_trans hc3 hm3
          have r2 := r2.next hb3
          have HB3 := below_next HB2 hb3
          clear ho3 hb3 hm3
          go_wp2_with fail
          refine (H5.out _ _ _ _ r2 hc2 l2).mono ?_
          rintro e w4 ⟨A4, n4, c4, rfl, ho4, hb4, hc4, hm4⟩
          have r4 : GotI w4 A4 n4 vb := Rd.of_own ho4
          have n4le : n4 ≤ 4611686018427387903 := by have := ho4.1; simp [ints] at this; omega
          have r3 := r3.next hb4
          have HB4 := below_next HB3 hb4
          clear ho4 hb4 hm4
          go_wp2_with fail
          refine (H6.out _ HB4).mono ?_
          rintro e w5 ⟨A5, n5, c5, rfl, ho5, hb5, hc5, hm5⟩
          have r5 : GotI w5 A5 n5 vb := Rd.of_own ho5
          have n5le : n5 ≤ 4611686018427387903 := by have := ho5.1; simp [ints] at this; omega
          have r3 := r3.next hb5
          have r4 := r4.next hb5
          have HB5 := below_next HB4 hb5
          clear ho5 hb5 hm5
          go_wp2_with fail
          refine (H7.out _ _ _ _ r3 hc3 l3).mono ?_
          rintro e w6 ⟨A6, n6, c6, rfl, ho6, hb6, hc6, hm6⟩
          have r6 : GotI w6 A6 n6 [0, 0, 0, 0] := Rd.of_own ho6
          have l6 : n6 ≤ maxLen := Nat.le_trans hc6 hm6
          have KB := Lib.hid (ebare_any A6 n6 c6 w6.heap.size [0, 0, 0, 0] w6 r6 l6)
          have r4 := r4.next hb6
          have r5 := r5.next hb6
          have HB6 := below_next HB5 hb6
          clear ho6 hb6 hm6
          go_wp2_with fail
          refine KB.out.mono ?_
          rintro e w' ⟨rfl, rfl⟩
          have bt : bareAns [0, 0, 0, 0] = true := by decide
          have et : entriesErr [0, 0, 0, 0] = 0 := by decide
          rw [bt, et]
          clear bt et
          go_wp2_with fail
          refine (H8.out _ HB6).mono ?_
          rintro e w7 ⟨A7, n7, c7, rfl, ho7, hb7, hc7, hm7⟩
          have r7 : GotI w7 A7 n7 t := Rd.of_own ho7
          have n7le : n7 ≤ 4611686018427387903 := by have := ho7.1; simp [ints] at this; have := LT.out; omega
          have r4 := r4.next hb7
          have r5 := r5.next hb7
          have HB7 := below_next HB6 hb7
          clear ho7 hb7 hm7
          go_wp2_with fail
          refine (entryBegun_any _).mono ?_
          rintro e w8 ⟨rfl, hb8⟩
          have r4 := r4.next hb8
          have r5 := r5.next hb8
          have r7 := r7.next hb8
          have HB8 := below_next HB7 hb8
          clear hb8
          go_wp2_with fail
          refine (sameInts_any A4 A5 n4 n5 c4 c5 vb vb _ r4 r5 n4le n5le).mono ?_
          rintro e w9 ⟨rfl, hb9⟩
          have r7 := r7.next hb9
          have HB9 := below_next HB8 hb9
          clear hb9
          go_wp2_with fail
          refine (sameInts_any A7 (some ⟨b, o, none⟩) n7 4 c7 c t t _ r7 (HT.out _ HB9) n7le hc).mono ?_
          rintro e w10 ⟨rfl, hb10⟩
          have HB10 := below_next HB9 hb10
          clear hb10
          go_wp2_with fail
          go_ret
          exact ⟨rfl, HB10⟩
        · rw [Nat.min_eq_left (by omega)] at f4 f5 f6
          have hab' : (ca : Int) ≤ (cb : Int) := by omega
          have K3 := KC.out ca
          have K4 := KC.out cb
          rw [q1, f1] at K3
          rw [q2, f2] at K4
          have K6 := KC.out ca
          rw [f5, f6] at K6
          have K8 := KC.out 4
          rw [f9, f10] at K8
          have K5 := fun (W : World) (A : Option Addr) (n c : Nat) (h : GotI W A n (cutL t ca)) (hn : n ≤ c) (hm : n ≤ maxLen) => ecut_any A n c (cutL t ca) (cb : Nat) W h hn hm
          rw [f3, f4] at K5
          have K7 := fun (W : World) (A : Option Addr) (n c : Nat) (h : GotI W A n (cutL t cb)) (hn : n ≤ c) (hm : n ≤ maxLen) => ecut_any A n c (cutL t cb) 0 W h hn hm
          rw [f7, f8] at K7
          have z1 : (cutL t ca).length ≤ 4 := by rw [← f1]; exact cutV_len t ca
          have z2 : (cutL t cb).length ≤ 4 := by rw [← f2]; exact cutV_len t cb
          generalize cutL t ca = va at *
          generalize cutL t cb = vb at *
          have H3 := Lib.hid K3; have H4 := Lib.hid K4; have H5 := Lib.hid K5; have H6 := Lib.hid K6; have H7 := Lib.hid K7; have H8 := Lib.hid K8
          clear K3 K4 K5 K6 K7 K8 q1 q2 f1 f2 f3 f4 f5 f6 f7 f8 f9 f10 he0
          go_wp2_with fail
          refine (H3.out _ HB1).mono ?_
          rintro e w2 ⟨A2, n2, c2, rfl, ho2, hb2, hc2, hm2⟩
          have r2 : GotI w2 A2 n2 va := Rd.of_own ho2
          have l2 : n2 ≤ maxLen := Nat.le_trans hc2 hm2
          have HB2 := below_next HB1 hb2
          clear ho2 hb2 hm2
          go_wp2_with fail
          refine (H4.out _ HB2).mono ?_
          rintro e w3 ⟨A3, n3, c3, rfl, ho3, hb3, hc3, hm3⟩
          have r3 : GotI w3 A3 n3 vb := Rd.of_own ho3
          have l3 : n3 ≤ maxLen := Nat.le_trans hc3 hm3
          have r2 := r2.next hb3
          have HB3 := below_next HB2 hb3
          clear ho3 hb3 hm3
          go_wp2_with fail
          refine (H5.out _ _ _ _ r2 hc2 l2).mono ?_
          rintro e w4 ⟨A4, n4, c4, rfl, ho4, hb4, hc4, hm4⟩
          have r4 : GotI w4 A4 n4 va := Rd.of_own ho4
          have n4le : n4 ≤ 4611686018427387903 := by have := ho4.1; simp [ints] at this; omega
          have r3 := r3.next hb4
          have HB4 := below_next HB3 hb4
          clear ho4 hb4 hm4
          go_wp2_with fail
          refine (H6.out _ HB4).mono ?_
          rintro e w5 ⟨A5, n5, c5, rfl, ho5, hb5, hc5, hm5⟩
          have r5 : GotI w5 A5 n5 va := Rd.of_own ho5
          have n5le : n5 ≤ 4611686018427387903 := by have := ho5.1; simp [ints] at this; omega
          have r3 := r3.next hb5
          have r4 := r4.next hb5
          have HB5 := below_next HB4 hb5
          clear ho5 hb5 hm5
          go_wp2_with fail
          refine (H7.out _ _ _ _ r3 hc3 l3).mono ?_
          rintro e w6 ⟨A6, n6, c6, rfl, ho6, hb6, hc6, hm6⟩
          have r6 : GotI w6 A6 n6 [0, 0, 0, 0] := Rd.of_own ho6
          have l6 : n6 ≤ maxLen := Nat.le_trans hc6 hm6
          have KB := Lib.hid (ebare_any A6 n6 c6 w6.heap.size [0, 0, 0, 0] w6 r6 l6)
          have r4 := r4.next hb6
          have r5 := r5.next hb6
          have HB6 := below_next HB5 hb6
          clear ho6 hb6 hm6
          go_wp2_with fail
          refine KB.out.mono ?_
          rintro e w' ⟨rfl, rfl⟩
          have bt : bareAns [0, 0, 0, 0] = true := by decide
          have et : entriesErr [0, 0, 0, 0] = 0 := by decide
          rw [bt, et]
          clear bt et
          go_wp2_with fail
          refine (H8.out _ HB6).mono ?_
          rintro e w7 ⟨A7, n7, c7, rfl, ho7, hb7, hc7, hm7⟩
          have r7 : GotI w7 A7 n7 t := Rd.of_own ho7
          have n7le : n7 ≤ 4611686018427387903 := by have := ho7.1; simp [ints] at this; have := LT.out; omega
          have r4 := r4.next hb7
          have r5 := r5.next hb7
          have HB7 := below_next HB6 hb7
          clear ho7 hb7 hm7
          go_wp2_with fail
          refine (entryBegun_any _).mono ?_
          rintro e w8 ⟨rfl, hb8⟩
          have r4 := r4.next hb8
          have r5 := r5.next hb8
          have r7 := r7.next hb8
          have HB8 := below_next HB7 hb8
          clear hb8
          go_wp2_with fail
          refine (sameInts_any A4 A5 n4 n5 c4 c5 va va _ r4 r5 n4le n5le).mono ?_
          rintro e w9 ⟨rfl, hb9⟩
          have r7 := r7.next hb9
          have HB9 := below_next HB8 hb9
          clear hb9
          go_wp2_with fail
          refine (sameInts_any A7 (some ⟨b, o, none⟩) n7 4 c7 c t t _ r7 (HT.out _ HB9) n7le hc).mono ?_
          rintro e w10 ⟨rfl, hb10⟩
          have HB10 := below_next HB9 hb10
          clear hb10
          go_wp2_with fail
          go_ret
          exact ⟨rfl, HB10⟩
      · have K3 := KC.out x4
        have K4 := KC.out x5
        have hor : cutE t x4 = 0 ∧ (cutE t x5 != 0) = true ∨ (cutE t x4 != 0) = true := by
          by_cases h0 : cutE t x4 = 0
          · exact .inl ⟨h0, by simpa using fun h => hcut ⟨h0, h⟩⟩
          · exact .inr (by simpa using h0)
        clear hcut
        generalize cutE t x4 = e4 at K3 hor
        generalize cutE t x5 = e5 at K4 hor
        generalize cutV t x4 = v4 at K3
        generalize cutV t x5 = v5 at K4
        rcases hor with ⟨rfl, hor⟩ | hor
        all_goals
          have H3 := Lib.hid K3; have H4 := Lib.hid K4
          clear K3 K4
          go_wp2_with fail
          refine (H3.out _ HB1).mono ?_
          rintro e w2 ⟨A2, n2, c2, rfl, ho2, hb2, hc2, hm2⟩
          have HB2 := below_next HB1 hb2
          clear ho2 hb2 hm2
          go_wp2_with fail
          refine (H4.out _ HB2).mono ?_
          rintro e w3 ⟨A3, n3, c3, rfl, ho3, hb3, hc3, hm3⟩
          have HB3 := below_next HB2 hb3
          clear ho3 hb3 hm3
          go_wp2_with fail
          refine (entryBegun_any _).mono ?_
          rintro e w8 ⟨rfl, hb8⟩
          go_wp2_with fail
          go_ret
          exact ⟨rfl, below_next HB3 hb8⟩
    · have gjk : ((j : Int) != (k : Int)) = true := by simp; omega
      have HJ1 := Lib.hid HJ; have H1 := Lib.hid K1
      have HL4 := Lib.hid l4
      have HX := Lib.hid hx
      have gjk' : ((k : Int) != (j : Int)) = true := by simp; omega
      have HJK := Lib.hid hjk
      clear HJ K1 h he h0 hv l4 hln hj hx hcell hf k1 k2 j0 j1 hjk
      go_enter Try.func11, Try.ntmps11
      go_wp2_with fail
      refine (H1.out _ HB0).mono ?_
      rintro e w1 ⟨A1, n1, c1, rfl, ho1, hb1, hc1, hm1⟩
      obtain rfl : n1 = 4 := by have := ho1.1; simp [ints] at this; have := HL4.out; omega
      obtain ⟨g, rfl, hg1, hg2⟩ := own_some_ ho1 (by omega)
      have hc2 := ho1.cellAt k (by omega)
      have hget : (ints (t.set k x2))[k]? = some (.int .i64 x2) := by unfold ints; rw [List.getElem?_map, List.getElem?_set_self (by rw [HL4.out]; exact hk4)]; rfl
      rw [hget] at hc2
      have hc3 := ho1.cellAt j (by omega)
      have hget2 : (ints (t.set k x2))[j]? = some (.int .i64 u) := by unfold ints; rw [List.getElem?_map, List.getElem?_set_ne (Ne.symm HJK.out), HX.out]; rfl
      rw [hget2] at hc3
      have hcell := (hb1.cell (p := ⟨b, o + j, none⟩) hbl).trans HCELL.out
      have HB1 := HB0.trans hb1
      clear ho1 hb1 hget hget2
      go_wp2_with fail
      refine (HJ1.out _).mono ?_
      rintro e w' ⟨rfl, rfl⟩
      go_wp2_with fail
      have a1 : (0 : Int) ≤ (k : Int) := by omega
      have a2 : (k : Int) < 4 := by omega
      have a3 : (0 : Int) ≤ (j : Int) := by omega
      have a4 : (j : Int) < 4 := by omega
      have a5 : decide ((k : Int) < 0) = false := by simp
      have a6 : decide (4 ≤ (k : Int)) = false := by simp; omega
      go_quiet (fail)
      rename_i nq
      have HB1 : Below w.heap.size w (w1.drewN nq) := below_drewN HB1 _
      clear hc2 hc3 hcell hg1 hg2 gjk gjk'
      by_cases hcut : cutE t x4 = 0 ∧ cutE t x5 = 0
      · obtain ⟨q1, q2⟩ := hcut
        obtain ⟨_, a1, a2⟩ := cut_is q1
        obtain ⟨he0, b1, b2⟩ := cut_is q2
        obtain ⟨ca, rfl⟩ := Int.eq_ofNat_of_zero_le a1
        obtain ⟨cb, rfl⟩ := Int.eq_ofNat_of_zero_le b1
        obtain ⟨f1, f2, f3, f4, f5, f6, f7, f8, f9, f10⟩ := cut_facts (a := ca) (b := cb) he0 (by omega) (by omega)
        rcases Nat.lt_or_ge cb ca with hab | hab
        · rw [Nat.min_eq_right (by omega)] at f4 f5 f6
          have hab' : (cb : Int) < (ca : Int) := by omega
          have K3 := KC.out ca
          have K4 := KC.out cb
          rw [q1, f1] at K3
          rw [q2, f2] at K4
          have K6 := KC.out cb
          rw [f5, f6] at K6
          have K8 := KC.out 4
          rw [f9, f10] at K8
          have K5 := fun (W : World) (A : Option Addr) (n c : Nat) (h : GotI W A n (cutL t ca)) (hn : n ≤ c) (hm : n ≤ maxLen) => ecut_any A n c (cutL t ca) (cb : Nat) W h hn hm
          rw [f3, f4] at K5
          have K7 := fun (W : World) (A : Option Addr) (n c : Nat) (h : GotI W A n (cutL t cb)) (hn : n ≤ c) (hm : n ≤ maxLen) => ecut_any A n c (cutL t cb) 0 W h hn hm
          rw [f7, f8] at K7
          have z1 : (cutL t ca).length ≤ 4 := by rw [← f1]; exact cutV_len t ca
          have z2 : (cutL t cb).length ≤ 4 := by rw [← f2]; exact cutV_len t cb
          generalize cutL t ca = va at *
          generalize cutL t cb = vb at *
          have H3 := Lib.hid K3; have H4 := Lib.hid K4; have H5 := Lib.hid K5; have H6 := Lib.hid K6; have H7 := Lib.hid K7; have H8 := Lib.hid K8
          clear K3 K4 K5 K6 K7 K8 q1 q2 f1 f2 f3 f4 f5 f6 f7 f8 f9 f10 he0
          go_wp2_with fail
          refine (H3.out _ HB1).mono ?_
          rintro e w2 ⟨A2, n2, c2, rfl, ho2, hb2, hc2, hm2⟩
          have r2 : GotI w2 A2 n2 va := Rd.of_own ho2
          have l2 : n2 ≤ maxLen := Nat.le_trans hc2 hm2
          have HB2 := below_next HB1 hb2
          clear ho2 hb2 hm2
          go_wp2_with fail
          refine (H4.out _ HB2).mono ?_
          rintro e w3 ⟨A3, n3, c3, rfl, ho3, hb3, hc3, hm3⟩
          have r3 : GotI w3 A3 n3 vb := Rd.of_own ho3
          have l3 : n3 ≤ maxLen := Nat.le_trans hc3 hm3
          have r2 := r2.next hb3
          have HB3 := below_next HB2 hb3
          clear ho3 hb3 hm3
          go_wp2_with fail
          refine (H5.out _ _ _ _ r2 hc2 l2).mono ?_
          rintro e w4 ⟨A4, n4, c4, rfl, ho4, hb4, hc4, hm4⟩
          have r4 : GotI w4 A4 n4 vb := Rd.of_own ho4
          have n4le : n4 ≤ 4611686018427387903 := by have := ho4.1; simp [ints] at this; omega
          have r3 := r3.next hb4
          have HB4 := below_next HB3 hb4
          clear ho4 hb4 hm4
          go_wp2_with fail
          refine (H6.out _ HB4).mono ?_
          rintro e w5 ⟨A5, n5, c5, rfl, ho5, hb5, hc5, hm5⟩
          have r5 : GotI w5 A5 n5 vb := Rd.of_own ho5
          have n5le : n5 ≤ 4611686018427387903 := by have := ho5.1; simp [ints] at this; omega
          have r3 := r3.next hb5
          have r4 := r4.next hb5
          have HB5 := below_next HB4 hb5
          clear ho5 hb5 hm5
          go_wp2_with fail
          refine (H7.out _ _ _ _ r3 hc3 l3).mono ?_
          rintro e w6 ⟨A6, n6, c6, rfl, ho6, hb6, hc6, hm6⟩
          have r6 : GotI w6 A6 n6 [0, 0, 0, 0] := Rd.of_own ho6
          have l6 : n6 ≤ maxLen := Nat.le_trans hc6 hm6
          have KB := Lib.hid (ebare_any A6 n6 c6 w6.heap.size [0, 0, 0, 0] w6 r6 l6)
          have r4 := r4.next hb6
          have r5 := r5.next hb6
          have HB6 := below_next HB5 hb6
          clear ho6 hb6 hm6
          go_wp2_with fail
          refine KB.out.mono ?_
          rintro e w' ⟨rfl, rfl⟩
          have bt : bareAns [0, 0, 0, 0] = true := by decide
          have et : entriesErr [0, 0, 0, 0] = 0 := by decide
          rw [bt, et]
          clear bt et
          go_wp2_with fail
          refine (H8.out _ HB6).mono ?_
          rintro e w7 ⟨A7, n7, c7, rfl, ho7, hb7, hc7, hm7⟩
          have r7 : GotI w7 A7 n7 t := Rd.of_own ho7
          have n7le : n7 ≤ 4611686018427387903 := by have := ho7.1; simp [ints] at this; have := LT.out; omega
          have r4 := r4.next hb7
          have r5 := r5.next hb7
          have HB7 := below_next HB6 hb7
          clear ho7 hb7 hm7
          go_wp2_with fail
          refine (entryBegun_any _).mono ?_
          rintro e w8 ⟨rfl, hb8⟩
          have r4 := r4.next hb8
          have r5 := r5.next hb8
          have r7 := r7.next hb8
          have HB8 := below_next HB7 hb8
          clear hb8
          go_wp2_with fail
          refine (sameInts_any A4 A5 n4 n5 c4 c5 vb vb _ r4 r5 n4le n5le).mono ?_
          rintro e w9 ⟨rfl, hb9⟩
          have r7 := r7.next hb9
          have HB9 := below_next HB8 hb9
          clear hb9
          go_wp2_with fail
          refine (sameInts_any A7 (some ⟨b, o, none⟩) n7 4 c7 c t t _ r7 (HT.out _ HB9) n7le hc).mono ?_
          rintro e w10 ⟨rfl, hb10⟩
          have HB10 := below_next HB9 hb10
          clear hb10
          go_wp2_with fail
          go_ret
          exact ⟨rfl, HB10⟩
        · rw [Nat.min_eq_left (by omega)] at f4 f5 f6
          have hab' : (ca : Int) ≤ (cb : Int) := by omega
          have K3 := KC.out ca
          have K4 := KC.out cb
          rw [q1, f1] at K3
          rw [q2, f2] at K4
          have K6 := KC.out ca
          rw [f5, f6] at K6
          have K8 := KC.out 4
          rw [f9, f10] at K8
          have K5 := fun (W : World) (A : Option Addr) (n c : Nat) (h : GotI W A n (cutL t ca)) (hn : n ≤ c) (hm : n ≤ maxLen) => ecut_any A n c (cutL t ca) (cb : Nat) W h hn hm
          rw [f3, f4] at K5
          have K7 := fun (W : World) (A : Option Addr) (n c : Nat) (h : GotI W A n (cutL t cb)) (hn : n ≤ c) (hm : n ≤ maxLen) => ecut_any A n c (cutL t cb) 0 W h hn hm
          rw [f7, f8] at K7
          have z1 : (cutL t ca).length ≤ 4 := by rw [← f1]; exact cutV_len t ca
          have z2 : (cutL t cb).length ≤ 4 := by rw [← f2]; exact cutV_len t cb
          generalize cutL t ca = va at *
          generalize cutL t cb = vb at *
          have H3 := Lib.hid K3; have H4 := Lib.hid K4; have H5 := Lib.hid K5; have H6 := Lib.hid K6; have H7 := Lib.hid K7; have H8 := Lib.hid K8
          clear K3 K4 K5 K6 K7 K8 q1 q2 f1 f2 f3 f4 f5 f6 f7 f8 f9 f10 he0
          go_wp2_with fail
          refine (H3.out _ HB1).mono ?_
          rintro e w2 ⟨A2, n2, c2, rfl, ho2, hb2, hc2, hm2⟩
          have r2 : GotI w2 A2 n2 va := Rd.of_own ho2
          have l2 : n2 ≤ maxLen := Nat.le_trans hc2 hm2
          have HB2 := below_next HB1 hb2
          clear ho2 hb2 hm2
          go_wp2_with fail
          refine (H4.out _ HB2).mono ?_
          rintro e w3 ⟨A3, n3, c3, rfl, ho3, hb3, hc3, hm3⟩
          have r3 : GotI w3 A3 n3 vb := Rd.of_own ho3
          have l3 : n3 ≤ maxLen := Nat.le_trans hc3 hm3
          have r2 := r2.next hb3
          have HB3 := below_next HB2 hb3
          clear ho3 hb3 hm3
          go_wp2_with fail
          refine (H5.out _ _ _ _ r2 hc2 l2).mono ?_
          rintro e w4 ⟨A4, n4, c4, rfl, ho4, hb4, hc4, hm4⟩
          have r4 : GotI w4 A4 n4 va := Rd.of_own ho4
          have n4le : n4 ≤ 4611686018427387903 := by have := ho4.1; simp [ints] at this; omega
          have r3 := r3.next hb4
          have HB4 := below_next HB3 hb4
          clear ho4 hb4 hm4
          go_wp2_with fail
          refine (H6.out _ HB4).mono ?_
          rintro e w5 ⟨A5, n5, c5, rfl, ho5, hb5, hc5, hm5⟩
          have r5 : GotI w5 A5 n5 va := Rd.of_own ho5
          have n5le : n5 ≤ 4611686018427387903 := by have := ho5.1; simp [ints] at this; omega
          have r3 := r3.next hb5
          have r4 := r4.next hb5
          have HB5 := below_next HB4 hb5
          clear ho5 hb5 hm5
          go_wp2_with fail
          refine (H7.out _ _ _ _ r3 hc3 l3).mono ?_
          rintro e w6 ⟨A6, n6, c6, rfl, ho6, hb6, hc6, hm6⟩
          have r6 : GotI w6 A6 n6 [0, 0, 0, 0] := Rd.of_own ho6
          have l6 : n6 ≤ maxLen := Nat.le_trans hc6 hm6
          have KB := Lib.hid (ebare_any A6 n6 c6 w6.heap.size [0, 0, 0, 0] w6 r6 l6)
          have r4 := r4.next hb6
          have r5 := r5.next hb6
          have HB6 := below_next HB5 hb6
          clear ho6 hb6 hm6
          go_wp2_with fail
          refine KB.out.mono ?_
          rintro e w' ⟨rfl, rfl⟩
          have bt : bareAns [0, 0, 0, 0] = true := by decide
          have et : entriesErr [0, 0, 0, 0] = 0 := by decide
          rw [bt, et]
          clear bt et
          go_wp2_with fail
          refine (H8.out _ HB6).mono ?_
          rintro e w7 ⟨A7, n7, c7, rfl, ho7, hb7, hc7, hm7⟩
          have r7 : GotI w7 A7 n7 t := Rd.of_own ho7
          have n7le : n7 ≤ 4611686018427387903 := by have := ho7.1; simp [ints] at this; have := LT.out; omega
          have r4 := r4.next hb7
          have r5 := r5.next hb7
          have HB7 := below_next HB6 hb7
          clear ho7 hb7 hm7
          go_wp2_with fail
          refine (entryBegun_any _).mono ?_
          rintro e w8 ⟨rfl, hb8⟩
          have r4 := r4.next hb8
          have r5 := r5.next hb8
          have r7 := r7.next hb8
          have HB8 := below_next HB7 hb8
          clear hb8
          go_wp2_with fail
          refine (sameInts_any A4 A5 n4 n5 c4 c5 va va _ r4 r5 n4le n5le).mono ?_
          rintro e w9 ⟨rfl, hb9⟩
          have r7 := r7.next hb9
          have HB9 := below_next HB8 hb9
          clear hb9
          go_wp2_with fail
          refine (sameInts_any A7 (some ⟨b, o, none⟩) n7 4 c7 c t t _ r7 (HT.out _ HB9) n7le hc).mono ?_
          rintro e w10 ⟨rfl, hb10⟩
          have HB10 := below_next HB9 hb10
          clear hb10
          go_wp2_with fail
          go_ret
          exact ⟨rfl, HB10⟩
      · have K3 := KC.out x4
        have K4 := KC.out x5
        have hor : cutE t x4 = 0 ∧ (cutE t x5 != 0) = true ∨ (cutE t x4 != 0) = true := by
          by_cases h0 : cutE t x4 = 0
          · exact .inl ⟨h0, by simpa using fun h => hcut ⟨h0, h⟩⟩
          · exact .inr (by simpa using h0)
        clear hcut
        generalize cutE t x4 = e4 at K3 hor
        generalize cutE t x5 = e5 at K4 hor
        generalize cutV t x4 = v4 at K3
        generalize cutV t x5 = v5 at K4
        rcases hor with ⟨rfl, hor⟩ | hor
        all_goals
          have H3 := Lib.hid K3; have H4 := Lib.hid K4
          clear K3 K4
          go_wp2_with fail
          refine (H3.out _ HB1).mono ?_
          rintro e w2 ⟨A2, n2, c2, rfl, ho2, hb2, hc2, hm2⟩
          have HB2 := below_next HB1 hb2
          clear ho2 hb2 hm2
          go_wp2_with fail
          refine (H4.out _ HB2).mono ?_
          rintro e w3 ⟨A3, n3, c3, rfl, ho3, hb3, hc3, hm3⟩
          have HB3 := below_next HB2 hb3
          clear ho3 hb3 hm3
          go_wp2_with fail
          refine (entryBegun_any _).mono ?_
          rintro e w8 ⟨rfl, hb8⟩
          go_wp2_with fail
          go_ret
          exact ⟨rfl, below_next HB3 hb8⟩
  · have he' : (withE t x1 x2 == 0) = false := by simpa using he
    generalize withE t x1 x2 = e1 at *
    generalize withV t x1 x2 = v1 at *
    have H1 := Lib.hid K1
    clear K1 he h
    go_enter Try.func11, Try.ntmps11
    go_wp2_with fail
    refine (H1.out _ HB0).mono ?_
    rintro e w1 ⟨A1, n1, c1, rfl, ho1, hb1, hc1, hm1⟩
    have HB1 := HB0.trans hb1
    clear ho1 hb1 hm1
    by_cases hcut : cutE t x4 = 0 ∧ cutE t x5 = 0
    · obtain ⟨q1, q2⟩ := hcut
      obtain ⟨_, a1, a2⟩ := cut_is q1
      obtain ⟨he0, b1, b2⟩ := cut_is q2
      obtain ⟨ca, rfl⟩ := Int.eq_ofNat_of_zero_le a1
      obtain ⟨cb, rfl⟩ := Int.eq_ofNat_of_zero_le b1
      obtain ⟨f1, f2, f3, f4, f5, f6, f7, f8, f9, f10⟩ := cut_facts (a := ca) (b := cb) he0 (by omega) (by omega)
      rcases Nat.lt_or_ge cb ca with hab | hab
      · rw [Nat.min_eq_right (by omega)] at f4 f5 f6
        have hab' : (cb : Int) < (ca : Int) := by omega
        have K3 := KC.out ca
        have K4 := KC.out cb
        rw [q1, f1] at K3
        rw [q2, f2] at K4
        have K6 := KC.out cb
        rw [f5, f6] at K6
        have K8 := KC.out 4
        rw [f9, f10] at K8
        have K5 := fun (W : World) (A : Option Addr) (n c : Nat) (h : GotI W A n (cutL t ca)) (hn : n ≤ c) (hm : n ≤ maxLen) => ecut_any A n c (cutL t ca) (cb : Nat) W h hn hm
        rw [f3, f4] at K5
        have K7 := fun (W : World) (A : Option Addr) (n c : Nat) (h : GotI W A n (cutL t cb)) (hn : n ≤ c) (hm : n ≤ maxLen) => ecut_any A n c (cutL t cb) 0 W h hn hm
        rw [f7, f8] at K7
        have z1 : (cutL t ca).length ≤ 4 := by rw [← f1]; exact cutV_len t ca
        have z2 : (cutL t cb).length ≤ 4 := by rw [← f2]; exact cutV_len t cb
        generalize cutL t ca = va at *
        generalize cutL t cb = vb at *
        have H3 := Lib.hid K3; have H4 := Lib.hid K4; have H5 := Lib.hid K5; have H6 := Lib.hid K6; have H7 := Lib.hid K7; have H8 := Lib.hid K8
        clear K3 K4 K5 K6 K7 K8 q1 q2 f1 f2 f3 f4 f5 f6 f7 f8 f9 f10 he0
        go_wp2_with fail
        refine (H3.out _ HB1).mono ?_
        rintro e w2 ⟨A2, n2, c2, rfl, ho2, hb2, hc2, hm2⟩
        have r2 : GotI w2 A2 n2 va := Rd.of_own ho2
        have l2 : n2 ≤ maxLen := Nat.le_trans hc2 hm2
        have HB2 := below_next HB1 hb2
        clear ho2 hb2 hm2
        go_wp2_with fail
        refine (H4.out _ HB2).mono ?_
        rintro e w3 ⟨A3, n3, c3, rfl, ho3, hb3, hc3, hm3⟩
        have r3 : GotI w3 A3 n3 vb := Rd.of_own ho3
        have l3 : n3 ≤ maxLen := Nat.le_trans hc3 hm3
        have r2 := r2.next hb3
        have HB3 := below_next HB2 hb3
        clear ho3 hb3 hm3
        go_wp2_with fail
        refine (H5.out _ _ _ _ r2 hc2 l2).mono ?_
        rintro e w4 ⟨A4, n4, c4, rfl, ho4, hb4, hc4, hm4⟩
        have r4 : GotI w4 A4 n4 vb := Rd.of_own ho4
        have n4le : n4 ≤ 4611686018427387903 := by have := ho4.1; simp [ints] at this; omega
        have r3 := r3.next hb4
        have HB4 := below_next HB3 hb4
        clear ho4 hb4 hm4
        go_wp2_with fail
        refine (H6.out _ HB4).mono ?_
        rintro e w5 ⟨A5, n5, c5, rfl, ho5, hb5, hc5, hm5⟩
        have r5 : GotI w5 A5 n5 vb := Rd.of_own ho5
        have n5le : n5 ≤ 4611686018427387903 := by have := ho5.1; simp [ints] at this; omega
        have r3 := r3.next hb5
        have r4 := r4.next hb5
        have HB5 := below_next HB4 hb5
        clear ho5 hb5 hm5
        go_wp2_with fail
        refine (H7.out _ _ _ _ r3 hc3 l3).mono ?_
        rintro e w6 ⟨A6, n6, c6, rfl, ho6, hb6, hc6, hm6⟩
        have r6 : GotI w6 A6 n6 [0, 0, 0, 0] := Rd.of_own ho6
        have l6 : n6 ≤ maxLen := Nat.le_trans hc6 hm6
        have KB := Lib.hid (ebare_any A6 n6 c6 w6.heap.size [0, 0, 0, 0] w6 r6 l6)
        have r4 := r4.next hb6
        have r5 := r5.next hb6
        have HB6 := below_next HB5 hb6
        clear ho6 hb6 hm6
        go_wp2_with fail
        refine KB.out.mono ?_
        rintro e w' ⟨rfl, rfl⟩
        have bt : bareAns [0, 0, 0, 0] = true := by decide
        have et : entriesErr [0, 0, 0, 0] = 0 := by decide
        rw [bt, et]
        clear bt et
        go_wp2_with fail
        refine (H8.out _ HB6).mono ?_
        rintro e w7 ⟨A7, n7, c7, rfl, ho7, hb7, hc7, hm7⟩
        have r7 : GotI w7 A7 n7 t := Rd.of_own ho7
        have n7le : n7 ≤ 4611686018427387903 := by have := ho7.1; simp [ints] at this; have := LT.out; omega
        have r4 := r4.next hb7
        have r5 := r5.next hb7
        have HB7 := below_next HB6 hb7
        clear ho7 hb7 hm7
        go_wp2_with fail
        refine (entryBegun_any _).mono ?_
        rintro e w8 ⟨rfl, hb8⟩
        have r4 := r4.next hb8
        have r5 := r5.next hb8
        have r7 := r7.next hb8
        have HB8 := below_next HB7 hb8
        clear hb8
        go_wp2_with fail
        refine (sameInts_any A4 A5 n4 n5 c4 c5 vb vb _ r4 r5 n4le n5le).mono ?_
        rintro e w9 ⟨rfl, hb9⟩
        have r7 := r7.next hb9
        have HB9 := below_next HB8 hb9
        clear hb9
        go_wp2_with fail
        refine (sameInts_any A7 A n7 n c7 c t t _ r7 (HT.out _ HB9) n7le hc).mono ?_
        rintro e w10 ⟨rfl, hb10⟩
        have HB10 := below_next HB9 hb10
        clear hb10
        go_wp2_with fail
        go_ret
        exact ⟨rfl, HB10⟩
      · rw [Nat.min_eq_left (by omega)] at f4 f5 f6
        have hab' : (ca : Int) ≤ (cb : Int) := by omega
        have K3 := KC.out ca
        have K4 := KC.out cb
        rw [q1, f1] at K3
        rw [q2, f2] at K4
        have K6 := KC.out ca
        rw [f5, f6] at K6
        have K8 := KC.out 4
        rw [f9, f10] at K8
        have K5 := fun (W : World) (A : Option Addr) (n c : Nat) (h : GotI W A n (cutL t ca)) (hn : n ≤ c) (hm : n ≤ maxLen) => ecut_any A n c (cutL t ca) (cb : Nat) W h hn hm
        rw [f3, f4] at K5
        have K7 := fun (W : World) (A : Option Addr) (n c : Nat) (h : GotI W A n (cutL t cb)) (hn : n ≤ c) (hm : n ≤ maxLen) => ecut_any A n c (cutL t cb) 0 W h hn hm
        rw [f7, f8] at K7
        have z1 : (cutL t ca).length ≤ 4 := by rw [← f1]; exact cutV_len t ca
        have z2 : (cutL t cb).length ≤ 4 := by rw [← f2]; exact cutV_len t cb
        generalize cutL t ca = va at *
        generalize cutL t cb = vb at *
        have H3 := Lib.hid K3; have H4 := Lib.hid K4; have H5 := Lib.hid K5; have H6 := Lib.hid K6; have H7 := Lib.hid K7; have H8 := Lib.hid K8
        clear K3 K4 K5 K6 K7 K8 q1 q2 f1 f2 f3 f4 f5 f6 f7 f8 f9 f10 he0
        go_wp2_with fail
        refine (H3.out _ HB1).mono ?_
        rintro e w2 ⟨A2, n2, c2, rfl, ho2, hb2, hc2, hm2⟩
        have r2 : GotI w2 A2 n2 va := Rd.of_own ho2
        have l2 : n2 ≤ maxLen := Nat.le_trans hc2 hm2
        have HB2 := below_next HB1 hb2
        clear ho2 hb2 hm2
        go_wp2_with fail
        refine (H4.out _ HB2).mono ?_
        rintro e w3 ⟨A3, n3, c3, rfl, ho3, hb3, hc3, hm3⟩
        have r3 : GotI w3 A3 n3 vb := Rd.of_own ho3
        have l3 : n3 ≤ maxLen := Nat.le_trans hc3 hm3
        have r2 := r2.next hb3
        have HB3 := below_next HB2 hb3
        clear ho3 hb3 hm3
        go_wp2_with fail
        refine (H5.out _ _ _ _ r2 hc2 l2).mono ?_
        rintro e w4 ⟨A4, n4, c4, rfl, ho4, hb4, hc4, hm4⟩
        have r4 : GotI w4 A4 n4 va := Rd.of_own ho4
        have n4le : n4 ≤ 4611686018427387903 := by have := ho4.1; simp [ints] at this; omega
        have r3 := r3.next hb4
        have HB4 := below_next HB3 hb4
        clear ho4 hb4 hm4
        go_wp2_with fail
        refine (H6.out _ HB4).mono ?_
        rintro e w5 ⟨A5, n5, c5, rfl, ho5, hb5, hc5, hm5⟩
        have r5 : GotI w5 A5 n5 va := Rd.of_own ho5
        have n5le : n5 ≤ 4611686018427387903 := by have := ho5.1; simp [ints] at this; omega
        have r3 := r3.next hb5
        have r4 := r4.next hb5
        have HB5 := below_next HB4 hb5
        clear ho5 hb5 hm5
        go_wp2_with fail
        refine (H7.out _ _ _ _ r3 hc3 l3).mono ?_
        rintro e w6 ⟨A6, n6, c6, rfl, ho6, hb6, hc6, hm6⟩
        have r6 : GotI w6 A6 n6 [0, 0, 0, 0] := Rd.of_own ho6
        have l6 : n6 ≤ maxLen := Nat.le_trans hc6 hm6
        have KB := Lib.hid (ebare_any A6 n6 c6 w6.heap.size [0, 0, 0, 0] w6 r6 l6)
        have r4 := r4.next hb6
        have r5 := r5.next hb6
        have HB6 := below_next HB5 hb6
        clear ho6 hb6 hm6
        go_wp2_with fail
        refine KB.out.mono ?_
        rintro e w' ⟨rfl, rfl⟩
        have bt : bareAns [0, 0, 0, 0] = true := by decide
        have et : entriesErr [0, 0, 0, 0] = 0 := by decide
        rw [bt, et]
        clear bt et
        go_wp2_with fail
        refine (H8.out _ HB6).mono ?_
        rintro e w7 ⟨A7, n7, c7, rfl, ho7, hb7, hc7, hm7⟩
        have r7 : GotI w7 A7 n7 t := Rd.of_own ho7
        have n7le : n7 ≤ 4611686018427387903 := by have := ho7.1; simp [ints] at this; have := LT.out; omega
        have r4 := r4.next hb7
        have r5 := r5.next hb7
        have HB7 := below_next HB6 hb7
        clear ho7 hb7 hm7
        go_wp2_with fail
        refine (entryBegun_any _).mono ?_
        rintro e w8 ⟨rfl, hb8⟩
        have r4 := r4.next hb8
        have r5 := r5.next hb8
        have r7 := r7.next hb8
        have HB8 := below_next HB7 hb8
        clear hb8
        go_wp2_with fail
        refine (sameInts_any A4 A5 n4 n5 c4 c5 va va _ r4 r5 n4le n5le).mono ?_
        rintro e w9 ⟨rfl, hb9⟩
        have r7 := r7.next hb9
        have HB9 := below_next HB8 hb9
        clear hb9
        go_wp2_with fail
        refine (sameInts_any A7 A n7 n c7 c t t _ r7 (HT.out _ HB9) n7le hc).mono ?_
        rintro e w10 ⟨rfl, hb10⟩
        have HB10 := below_next HB9 hb10
        clear hb10
        go_wp2_with fail
        go_ret
        exact ⟨rfl, HB10⟩
    · have K3 := KC.out x4
      have K4 := KC.out x5
      have hor : cutE t x4 = 0 ∧ (cutE t x5 != 0) = true ∨ (cutE t x4 != 0) = true := by
        by_cases h0 : cutE t x4 = 0
        · exact .inl ⟨h0, by simpa using fun h => hcut ⟨h0, h⟩⟩
        · exact .inr (by simpa using h0)
      clear hcut
      generalize cutE t x4 = e4 at K3 hor
      generalize cutE t x5 = e5 at K4 hor
      generalize cutV t x4 = v4 at K3
      generalize cutV t x5 = v5 at K4
      rcases hor with ⟨rfl, hor⟩ | hor
      all_goals
        have H3 := Lib.hid K3; have H4 := Lib.hid K4
        clear K3 K4
        go_wp2_with fail
        refine (H3.out _ HB1).mono ?_
        rintro e w2 ⟨A2, n2, c2, rfl, ho2, hb2, hc2, hm2⟩
        have HB2 := below_next HB1 hb2
        clear ho2 hb2 hm2
        go_wp2_with fail
        refine (H4.out _ HB2).mono ?_
        rintro e w3 ⟨A3, n3, c3, rfl, ho3, hb3, hc3, hm3⟩
        have HB3 := below_next HB2 hb3
        clear ho3 hb3 hm3
        go_wp2_with fail
        refine (entryBegun_any _).mono ?_
        rintro e w8 ⟨rfl, hb8⟩
        go_wp2_with fail
        go_ret
        exact ⟨rfl, below_next HB3 hb8⟩
end Go.Proofs.Ytiodlalfmeeemaa
