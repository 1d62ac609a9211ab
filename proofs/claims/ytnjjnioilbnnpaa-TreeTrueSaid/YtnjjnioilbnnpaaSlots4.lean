/- slots.Used and the reference's SlotFine, SlotsError, GrabOf, UsedOf. Conditions: the slots are read in blocks below the heap's size. -/
import Derived.Test.YtnjjnioilbnnpaaSlots3
namespace Go.Proofs.Ytnjjnioilbnnpaa
open Go.RowKit Sl

theorem used_bad {l : List Slot} (h : slotsErr l ≠ 0) : usedN l = 0 := by unfold usedN; rw [if_neg h]
theorem used_ok {l : List Slot} (h : slotsErr l = 0) : usedN l = used l := by unfold usedN; rw [if_pos h]
theorem used_all {l : List Slot} {k : Nat} (h : l.length ≤ k) : used (l.take k) = used l := by rw [List.take_of_length_le h]

set_option maxRecDepth 100000 in
set_option maxHeartbeats 400000 in
theorem used_any (A : Option Addr) (n c : Nat) (l : List Slot) (w : World) (h : SlotsR w w.heap.size A n l) (hc : n ≤ 4611686018427387903) :
    Calls Try.prog 29 #[.slice A n c] w fun e w' => e = .returned (.tuple #[.int .i64 (usedN l), .int .i64 (slotsErr l)]) ∧ Below w.heap.size w w' := by
  have HK := Lib.hid (scheckall_any A n c l w h (by omega))
  by_cases he : slotsErr l = 0
  · obtain ⟨l1, l2⟩ := slotsErr_len he
    have hln := h.1
    have R := Lib.hid (used_ok he)
    rw [he] at HK ⊢
    have n40 : n ≤ 40 := by omega
    clear he hln
    go_enter Try.func29, Try.ntmps29
    go_wp2_with (go_at_call 60; refine HK.out.mono ?_; rintro e w1 ⟨rfl, hb1⟩)
    go_loopw [15, 5, 7] (fun i u _ wr => ∃ k : Nat, k ≤ n ∧ i = .int .i64 k ∧ u = .int .i64 (used (l.take k) : Nat) ∧ Below w.heap.size w wr) (fun i _ _ _ => n - (intOf i).toNat)
    case atStart => exact ⟨0, Nat.zero_le _, rfl, rfl, hb1⟩
    case round =>
      obtain ⟨k, hkn, rfl, rfl, hbw⟩ := hrel
      have hu := used_le (l.take k)
      rw [List.length_take] at hu
      have hu' : used (l.take k) ≤ 40 := by omega
      clear hu
      by_cases hlt : k < n
      · obtain ⟨b, o, s, tA, tn, tc, rfl, hb, hx, h0, h1, h2, hs⟩ := (h.below hbw (Nat.le_refl _)).at_ hlt
        have HU := Lib.hid (used_take_succ l k s hx)
        have hz := hbw.size
        clear hx hs
        cases hp : (s.kind == 0)
        · go_wp2_with (go_at_call 61; refine (sfree_any _ _ _ _).mono ?_; rintro e w2 ⟨rfl, hb2⟩)
          go_roundw
          case rel => exact ⟨k + 1, by omega, by go_num, by rw [HU.out, if_neg (by simpa using hp)]; go_num, (hbw.alloc (by omega) _).trans (hb2.mono (by simp; omega))⟩
          case measure => simp [intOf]; omega
        · go_wp2_with (go_at_call 61; refine (sfree_any _ _ _ _).mono ?_; rintro e w2 ⟨rfl, hb2⟩)
          go_roundw
          case rel => exact ⟨k + 1, by omega, by go_num, by rw [HU.out, if_pos (by simpa using hp)]; rfl, (hbw.alloc (by omega) _).trans (hb2.mono (by simp; omega))⟩
          case measure => simp [intOf]; omega
      · go_wp2_with fail
        go_ret2
        exact ⟨ret_ii (by rw [R.out, used_all (by rw [h.1]; omega)]) rfl, hbw⟩
  · have R := Lib.hid (used_bad he)
    have he' : (slotsErr l != 0) = true := by simpa using he
    clear h he
    go_enter Try.func29, Try.ntmps29
    go_wp2_with (go_at_call 60; refine HK.out.mono ?_; rintro e w' ⟨rfl, hb'⟩)
    go_ret2
    exact ⟨ret_ii R.out rfl, hb'⟩

theorem rfine_0 (data : ByteArray) (A : Option Addr) (n c : Nat) (w : World) :
    Calls Try.prog 74 #[.agg #[.int .i64 0, .string data, .slice A n c]] w fun e w' => e = .returned (.bool (data.size == 0 && n == 0)) ∧ Below w.heap.size w w' := by
  have HE := Lib.hid (size_empty data)
  cases hd : data.toList.isEmpty
  · go_enter Try.func74, Try.ntmps74
    go_wp2_with fail
    go_ret
    exact ⟨ret_bool (by rw [← HE.out, hd]; rfl), (Below.refl _ _).alloc (Nat.le_refl _) _⟩
  · go_enter Try.func74, Try.ntmps74
    go_wp2_with fail
    go_ret
    refine ⟨ret_bool ?_, (Below.refl _ _).alloc (Nat.le_refl _) _⟩
    rw [← HE.out, hd, Bool.true_and, Bool.eq_iff_iff]; simp only [beq_iff_eq]; omega
theorem rfine_1 (data : ByteArray) (A : Option Addr) (n c : Nat) (w : World) :
    Calls Try.prog 74 #[.agg #[.int .i64 1, .string data, .slice A n c]] w fun e w' => e = .returned (.bool (data.size == 4 && n == 0)) ∧ Below w.heap.size w w' := by
  cases h4 : ((data.size : Int) == 4)
  · go_enter Try.func74, Try.ntmps74
    go_wp2_with fail
    go_ret
    refine ⟨ret_bool ?_, (Below.refl _ _).alloc (Nat.le_refl _) _⟩
    have : (data.size == 4) = false := by rw [beq_eq_false_iff_ne] at h4 ⊢; omega
    rw [this]; rfl
  · go_enter Try.func74, Try.ntmps74
    go_wp2_with fail
    go_ret
    refine ⟨ret_bool ?_, (Below.refl _ _).alloc (Nat.le_refl _) _⟩
    rw [beq_iff_eq] at h4
    rw [Bool.eq_iff_iff]; simp only [Bool.and_eq_true, beq_iff_eq]; omega
set_option maxHeartbeats 400000 in
theorem rfine_2 (data : ByteArray) (A : Option Addr) (n c : Nat) (xs : List Int) (w : World) (h : Rd w w.heap.size 1 A n (ints xs)) (hn : n ≤ maxLen) :
    Calls Try.prog 74 #[.agg #[.int .i64 2, .string data, .slice A n c]] w fun e w' => e = .returned (.bool (data.size == 0 && entriesErr xs == 0 && !bare xs)) ∧ Below w.heap.size w w' := by
  have HE := Lib.hid (size_empty data)
  have HK := fun o => Lib.hid (rcheck_any A n c w.heap.size xs (w.alloc o) (h.below ((Below.refl _ _).alloc (Nat.le_refl _) _) (Nat.le_refl _)) hn)
  have HB := fun o => Lib.hid (rbare_any A n c w.heap.size xs (w.alloc o) (h.below ((Below.refl _ _).alloc (Nat.le_refl _) _) (Nat.le_refl _)) hn)
  clear h hn
  cases hd : data.toList.isEmpty
  · go_enter Try.func74, Try.ntmps74
    go_wp2_with fail
    go_ret
    exact ⟨ret_bool (by rw [← HE.out, hd]; rfl), (Below.refl _ _).alloc (Nat.le_refl _) _⟩
  · have HD : data.size == 0 := by rw [← HE.out, hd]
    clear HE
    cases he : (entriesErr xs == 0)
    · go_enter Try.func74, Try.ntmps74
      go_wp2_with (go_at_call 85; refine (HK _).out.mono ?_; rintro e w' ⟨rfl, rfl⟩)
      go_ret
      exact ⟨ret_bool (by rw [HD]; rfl), (Below.refl _ _).alloc (Nat.le_refl _) _⟩
    · go_enter Try.func74, Try.ntmps74
      go_wp2_with (first | (go_at_call 85; refine (HK _).out.mono ?_; rintro e w' ⟨rfl, rfl⟩) | (go_at_call 86; refine (HB _).out.mono ?_; rintro e w' ⟨rfl, rfl⟩))
      go_ret
      exact ⟨ret_bool (by rw [HD]; rfl), (Below.refl _ _).alloc (Nat.le_refl _) _⟩
theorem rfine_no (kind : Int) (data : ByteArray) (A : Option Addr) (n c : Nat) (w : World) (h0 : kind ≠ 0) (h1 : kind ≠ 1) (h2 : kind ≠ 2) :
    Calls Try.prog 74 #[.agg #[.int .i64 kind, .string data, .slice A n c]] w fun e w' => e = .returned (.bool false) ∧ Below w.heap.size w w' := by
  go_enter Try.func74, Try.ntmps74
  go_wp2_with fail
  go_ret
  exact ⟨rfl, (Below.refl _ _).alloc (Nat.le_refl _) _⟩
/-- slipsheetref.SlotFine: whatever slot it is handed. -/
theorem rfine_any (s : Slot) (A : Option Addr) (n c : Nat) (w : World) (h : Rd w w.heap.size 1 A n (ints s.table)) (hn : n ≤ 4611686018427387903) :
    Calls Try.prog 74 #[.agg #[.int .i64 s.kind, .string s.data, .slice A n c]] w
    fun e w' => e = .returned (.bool (slotFine s)) ∧ Below w.heap.size w w' := by
  obtain ⟨k, d, t⟩ := s
  have hl : t.length = n := h.len
  unfold slotFine
  dsimp only at *
  by_cases h0 : k = 0
  · subst h0
    rw [if_pos rfl, hl]
    exact rfine_0 d A n c w
  · rw [if_neg h0]
    by_cases h1 : k = 1
    · subst h1
      rw [if_pos rfl, hl]
      exact rfine_1 d A n c w
    · rw [if_neg h1]
      by_cases h2 : k = 2
      · subst h2
        rw [if_pos rfl]
        exact rfine_2 d A n c t w h (by unfold maxLen; omega)
      · rw [if_neg h2]
        exact rfine_no k d A n c w h0 h1 h2

set_option maxRecDepth 100000 in
set_option maxHeartbeats 400000 in
theorem rslots_any (A : Option Addr) (n c : Nat) (l : List Slot) (w : World) (h : SlotsR w w.heap.size A n l) (hc : n ≤ 4611686018427387903) :
    Calls Try.prog 48 #[.slice A n c] w fun e w' => e = .returned (.int .i64 (slotsErr l)) ∧ Below w.heap.size w w' := by
  have hln := h.1
  by_cases h1 : 1 ≤ n ∧ n ≤ 40
  · have g1 : (decide (1 ≤ (n : Int)) && decide ((n : Int) ≤ 40)) = true := by simp; omega
    obtain ⟨h1, h2⟩ := h1
    obtain ⟨b0, o0, s0, tA0, tn0, tc0, rfl, hb0, hx0, c00, c01, c02, hs0⟩ := h.at_ (k := 0) (by omega)
    have hk0 := kind0_at hx0
    rw [Nat.zero_mul, Nat.add_zero] at c00
    clear c01 c02 hs0 hx0
    have HK0 := Lib.hid hk0
    have HC := Lib.hid c00
    clear hk0 c00 hln
    go_enter Try.func48, Try.ntmps48
    go_wp2_with (go_at_call 47; refine (within_any _ _ _ _).mono ?_; rintro e w1 ⟨rfl, rfl⟩)
    go_loopw [3] (fun i wr => ∃ k : Nat, k ≤ n ∧ i = .int .i64 k ∧ (l.take k).all slotFine = true ∧ Below w.heap.size w wr) (fun i _ => n - (intOf i).toNat)
    case atStart => exact ⟨0, Nat.zero_le _, rfl, by simp, Below.refl _ _⟩
    case round =>
      obtain ⟨k, hkn, rfl, ha, hbw⟩ := hrel
      have HA := Lib.hid ha
      clear ha
      by_cases hlt : k < n
      · obtain ⟨b, o, s, tA, tn, tc, ho, hb, hx, c0, c1, c2, hs⟩ := (h.below hbw (Nat.le_refl _)).at_ hlt
        simp only [Option.some.injEq, Addr.mk.injEq, and_true] at ho
        obtain ⟨rfl, rfl⟩ := ho
        have HX := Lib.hid hx
        clear hx
        have hz := hbw.size
        have HF := Lib.hid (rfine_any s tA tn tc _ (hs.table.more hz) (Nat.le_trans hs.len hs.cap))
        cases hp : slotFine s
        · rw [hp] at HF
          go_wp2_with (go_at_call 74; refine HF.out.mono ?_; rintro e w2 ⟨rfl, hb2⟩)
          go_ret
          exact ⟨ret_int (slotsErr_bad (by rw [h.1]; omega) (by rw [h.1]; omega) (all_false _ l k s HX.out hp)), hbw.trans (hb2.mono hz)⟩
        · rw [hp] at HF
          go_wp2_with (go_at_call 74; refine HF.out.mono ?_; rintro e w2 ⟨rfl, hb2⟩)
          go_roundw
          case rel => exact ⟨k + 1, by omega, by go_num, by rw [all_take_succ _ l k s HX.out, HA.out, hp]; rfl, hbw.trans (hb2.mono hz)⟩
          case measure => simp [intOf]; omega
      · have c0 := (hbw.cell (p := ⟨b0, o0, none⟩) hb0).trans HC.out
        cases hz : (s0.kind != 0)
        · go_wp2_with fail
          go_ret
          exact ⟨ret_int (slotsErr_ok (by rw [h.1]; omega) (by rw [h.1]; omega) (all_done _ l k (by rw [h.1]; omega) HA.out) (by rw [HK0.out]; simpa using hz)), hbw⟩
        · go_wp2_with fail
          go_ret
          exact ⟨ret_int (slotsErr_first (by rw [h.1]; omega) (by rw [h.1]; omega) (by rw [HK0.out]; simpa using hz)), hbw⟩
  · have g1 : (decide (1 ≤ (n : Int)) && decide ((n : Int) ≤ 40)) = false := by
      rw [Bool.eq_false_iff]; simp; omega
    have HV := Lib.hid (slotsErr_many (l := l) (by omega))
    clear h hln
    go_enter Try.func48, Try.ntmps48
    go_wp2_with (go_at_call 47; refine (within_any _ _ _ _).mono ?_; rintro e w1 ⟨rfl, rfl⟩)
    go_ret
    exact ⟨ret_int HV.out, Below.refl _ _⟩
end Go.Proofs.Ytnjjnioilbnnpaa
