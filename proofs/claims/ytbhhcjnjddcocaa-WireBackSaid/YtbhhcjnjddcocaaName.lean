/- tree.Name and the reference's IsName. Conditions: the size is that of a value that is read. -/
import Derived.Test.YtbhhcjnjddcocaaTreeA
import Derived.Test.YtbhhcjnjddcocaaShelf
namespace Go.Proofs.Ytbhhcjnjddcocaa
open Go.RowKit Go.Shelf Sl

def badR (x : Nat) : Bool := decide (x < 97) || decide (122 < x)
theorem decode_lo (s : ByteArray) (i : Nat) (h : (s.get! i).toNat < 128) : Utf8.decode s i = ((s.get! i).toNat, 1) := by
  unfold Utf8.decode
  simp only [Nat.add_zero]
  rw [if_pos h]
theorem decode_hi (s : ByteArray) (i : Nat) (h : ¬ (s.get! i).toNat < 128) : 128 ≤ (Utf8.decode s i).1 := by
  unfold Utf8.decode
  simp only [Nat.add_zero]
  rw [if_neg h]
  repeat' split
  all_goals first | omega | (rename_i hh; simp only [Bool.and_eq_true, decide_eq_true_eq, ge_iff_le] at hh; omega) | (simp [Utf8.runeError]; done)
theorem badR_letter (c : UInt8) : badR c.toNat = !letter c := by
  unfold badR letter
  rw [Bool.eq_iff_iff]; simp only [Bool.or_eq_true, decide_eq_true_eq, Bool.not_eq_true', Bool.and_eq_false_imp]; 
  simp; omega
theorem idx_name (s : ByteArray) : ∀ f pos, s.size ≤ pos + f → (0 ≤ Lib.idxFuncFrom badR true s f pos ↔ ∃ j, pos ≤ j ∧ j < s.size ∧ letter (s.get! j) = false) := by
  intro f
  induction f with
  | zero =>
    intro pos h
    simp only [Lib.idxFuncFrom]
    exact ⟨fun h => absurd h (by omega), fun ⟨j, h1, h2, _⟩ => by omega⟩
  | succ f ih =>
    intro pos h
    simp only [Lib.idxFuncFrom]
    by_cases hp : pos < s.size
    · rw [if_pos hp]
      by_cases hlo : (s.get! pos).toNat < 128
      · rw [decode_lo s pos hlo]
        dsimp only
        rw [badR_letter]
        cases hl : letter (s.get! pos)
        · rw [if_pos (by rfl)]
          exact ⟨fun _ => ⟨pos, Nat.le_refl _, hp, hl⟩, fun _ => by omega⟩
        · rw [if_neg (by decide), ih (pos + 1) (by omega)]
          refine ⟨fun ⟨j, h1, h2, h3⟩ => ⟨j, by omega, h2, h3⟩, fun ⟨j, h1, h2, h3⟩ => ⟨j, ?_, h2, h3⟩⟩
          rcases Nat.lt_or_ge pos j with h4 | h4
          · omega
          · have : j = pos := by omega
            subst this; rw [hl] at h3; cases h3
      · have h1 := decode_hi s pos hlo
        have h2 : badR (Utf8.decode s pos).1 = true := by unfold badR; simp; omega
        rw [if_pos h2]
        refine ⟨fun _ => ⟨pos, Nat.le_refl _, hp, ?_⟩, fun _ => by omega⟩
        unfold letter; simp; omega
    · rw [if_neg hp]
      exact ⟨fun h => absurd h (by omega), fun ⟨j, h1, h2, _⟩ => by omega⟩
theorem toList_get (s : ByteArray) (j : Nat) (h : j < s.size) : s.toList[j]? = some (s.get! j) := by
  rw [ByteArray.toList_eq, Array.getElem?_toList]
  have : j < s.data.size := h
  simp [ByteArray.get!, Array.getElem?_eq_getElem this, getElem!_pos s.data j this]
theorem toList_len (s : ByteArray) : s.toList.length = s.size := by rw [ByteArray.toList_eq]; rfl
theorem idx_letters (s : ByteArray) : decide (0 ≤ Lib.idxFunc badR true s) = !(s.toList.all letter) := by
  have h := idx_name s s.size 0 (by omega)
  unfold Lib.idxFunc
  rw [Bool.eq_iff_iff, decide_eq_true_eq, h]
  simp only [Bool.not_eq_true', List.all_eq_false]
  constructor
  · rintro ⟨j, _, h1, h2⟩
    exact ⟨_, List.mem_of_getElem? (toList_get s j h1), by simp [h2]⟩
  · rintro ⟨c, hc, h2⟩
    obtain ⟨j, hj, rfl⟩ := List.mem_iff_getElem.1 hc
    have hj' : j < s.size := by rw [← toList_len]; exact hj
    have := toList_get s j hj'
    rw [List.getElem?_eq_getElem hj] at this
    injection this with this
    exact ⟨j, Nat.zero_le _, hj', by rw [← this]; simpa using h2⟩

theorem letter_int (c : UInt8) : letter c = (decide ((97 : Int) ≤ (c.toNat : Int)) && decide ((c.toNat : Int) ≤ 122)) := by
  unfold letter
  rw [show decide (97 ≤ c.toNat) = decide ((97 : Int) ≤ (c.toNat : Int)) from by rw [decide_eq_decide]; omega, show decide (c.toNat ≤ 122) = decide ((c.toNat : Int) ≤ 122) from by rw [decide_eq_decide]; omega]

theorem namefn_any (x : Nat) (w : World) : Calls Try.prog 51 #[.int .i32 (x : Nat)] w fun e w' => e = .returned (.bool (badR x)) ∧ w = w' := by
  by_cases h1 : (x : Int) < 97
  · have hv := Lib.hid (show badR x = true from by unfold badR; simp <;> omega)
    go_enter Try.func51, Try.ntmps51
    go_wp2
    go_ret
    exact ⟨ret_bool hv.out, rfl⟩
  · by_cases h2 : (122 : Int) < x
    · have hv := Lib.hid (show badR x = true from by unfold badR; simp <;> omega)
      go_enter Try.func51, Try.ntmps51
      go_wp2
      go_ret
      exact ⟨ret_bool hv.out, rfl⟩
    · have hv := Lib.hid (show badR x = false from by unfold badR; simp <;> omega)
      have h2' : (x : Int) ≤ 122 := by omega
      go_enter Try.func51, Try.ntmps51
      go_wp2
      go_ret
      exact ⟨ret_bool hv.out, rfl⟩
set_option maxHeartbeats 400000 in
theorem name_any (s : ByteArray) (w : World) (hs : s.size ≤ 4611686018427387903) : Calls Try.prog 41 #[.string s] w fun e w' => e = .returned (.bool (isName s)) ∧ Below w.heap.size w w' := by
  have hcon := Try.strings_ContainsFunc 51 #[] (fun _ _ => by kernel_rfl) badR s w (fun W x _ => (namefn_any x W).mono fun e w' ⟨h1, h2⟩ => ⟨h1, 0, by rw [← h2]; rfl⟩)
  rw [idx_letters] at hcon
  have HC := Lib.hid hcon
  clear hcon
  by_cases h1 : 0 < s.size
  · by_cases h2 : s.size ≤ 8
    · have hv := Lib.hid (show isName s = s.toList.all letter from by unfold isName; rw [decide_eq_true (by omega : 1 ≤ s.size), decide_eq_true h2]; rfl)
      generalize s.toList.all letter = al at *
      cases al
      all_goals
        go_enter Try.func41, Try.ntmps41
        go_wp2_with (go_at_call 50; refine HC.out.mono ?_; rintro e w' ⟨rfl, hb⟩)
        go_ret
        exact ⟨ret_bool hv.out, hb⟩
    · have hv := Lib.hid (show isName s = false from by unfold isName; rw [decide_eq_false h2]; simp)
      have h2' : (8 : Int) < s.size := by omega
      go_enter Try.func41, Try.ntmps41
      go_wp2_with fail
      go_ret
      exact ⟨ret_bool hv.out, Below.refl _ _⟩
  · have hv := Lib.hid (show isName s = false from by unfold isName; rw [decide_eq_false (by omega : ¬ 1 ≤ s.size)]; simp)
    have h1' : (s.size : Int) ≤ 0 := by omega
    go_enter Try.func41, Try.ntmps41
    go_wp2_with fail
    go_ret
    exact ⟨ret_bool hv.out, Below.refl _ _⟩

set_option maxHeartbeats 400000 in
theorem rname_any (s : ByteArray) (w : World) (hs : s.size ≤ 4611686018427387903) : Calls Try.prog 34 #[.string s] w fun e w' => e = .returned (.bool (isName s)) ∧ w = w' := by
  by_cases h1 : 1 ≤ s.size ∧ s.size ≤ 8
  · have g1 : (decide (1 ≤ (s.size : Int)) && decide ((s.size : Int) ≤ 8)) = true := by simp; omega
    have hv := Lib.hid (show isName s = s.toList.all letter from by unfold isName; rw [decide_eq_true h1.1, decide_eq_true h1.2]; rfl)
    obtain ⟨h1, h2⟩ := h1
    go_enter Try.func34, Try.ntmps34
    go_wp2_with (go_at_call 32; refine (within_any _ _ _ _).mono ?_; rintro e w' ⟨rfl, rfl⟩)
    go_loop [3] (fun i => ∃ k : Nat, k ≤ s.size ∧ i = .int .i64 k ∧ (s.toList.take k).all letter = true) (fun i => s.size - (intOf i).toNat)
    case atStart => exact ⟨0, Nat.zero_le _, rfl, by simp⟩
    case round =>
      obtain ⟨k, hk, rfl, ha⟩ := hrel
      have HA := Lib.hid ha
      clear ha
      by_cases hlt : k < s.size
      · have hx := toList_get s k hlt
        have he : s.get! k = s[k] := by simp [ByteArray.get!, hlt]; rfl
        rw [he] at hx
        have HX := Lib.hid hx
        clear hx he
        have hlb : letter s[k] = (decide (97 ≤ (s[k].toNat : Int)) && decide ((s[k].toNat : Int) ≤ 122)) := letter_int _
        have HL := Lib.hid hlb
        clear hlb
        by_cases p1 : (s[k].toNat : Int) < 97
        · go_wp2
          go_ret
          exact ⟨ret_bool (by rw [hv.out, all_false _ _ k _ HX.out (by rw [HL.out, decide_eq_false (by omega)]; rfl)]), rfl⟩
        · by_cases p2 : 122 < (s[k].toNat : Int)
          · go_wp2
            go_ret
            exact ⟨ret_bool (by rw [hv.out, all_false _ _ k _ HX.out (by rw [HL.out, decide_eq_false (by omega : ¬ (s[k].toNat : Int) ≤ 122)]; simp)]), rfl⟩
          · have p1' : 97 ≤ (s[k].toNat : Int) := by omega
            have p2' : (s[k].toNat : Int) ≤ 122 := by omega
            go_wp2
            go_round
            case rel => exact ⟨k + 1, by omega, by go_num, by rw [all_take_succ _ _ k _ HX.out, HA.out, HL.out, decide_eq_true p1', decide_eq_true p2']; rfl⟩
            case measure => simp [intOf]; omega
      · go_wp2
        go_ret
        exact ⟨ret_bool (by rw [hv.out, all_done _ _ k (by rw [toList_len]; omega) HA.out]), rfl⟩
  · have g1 : (decide (1 ≤ (s.size : Int)) && decide ((s.size : Int) ≤ 8)) = false := by rw [Bool.eq_false_iff]; simp; omega
    have hv := Lib.hid (show isName s = false from by
      unfold isName
      by_cases h2 : 1 ≤ s.size
      · rw [decide_eq_false (by omega : ¬ s.size ≤ 8)]; simp
      · rw [decide_eq_false h2]; simp)
    go_enter Try.func34, Try.ntmps34
    go_wp2_with (go_at_call 32; refine (within_any _ _ _ _).mono ?_; rintro e w' ⟨rfl, rfl⟩)
    go_ret
    exact ⟨ret_bool hv.out, rfl⟩
end Go.Proofs.Ytbhhcjnjddcocaa
