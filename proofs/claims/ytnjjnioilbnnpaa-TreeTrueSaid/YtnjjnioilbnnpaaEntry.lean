/- The walks of package entry's checks and the reference's. Conditions: the slice is read in a block below B. -/
import Derived.Test.YtnjjnioilbnnpaaBase
namespace Go.Proofs.Ytnjjnioilbnnpaa
open Go.RowKit Sl

theorem within_any (n lo hi : Int) (w : World) : Calls Try.prog 47 #[.int .i64 n, .int .i64 lo, .int .i64 hi] w
    fun e w' => e = .returned (.bool (decide (lo ≤ n) && decide (n ≤ hi))) ∧ w = w' := by
  by_cases h1 : lo ≤ n
  · by_cases h2 : n ≤ hi
    all_goals
      go_enter Try.func47, Try.ntmps47
      go_wp2
      go_ret
      exact ⟨by simp [h1, h2], rfl⟩
  · go_enter Try.func47, Try.ntmps47
    go_wp2
    go_ret
    exact ⟨by rw [decide_eq_false (by omega : ¬ lo ≤ n)]; rfl, rfl⟩

theorem fine_any (n : Int) (w : World) : Calls Try.prog 104 #[.int .i64 n] w
    fun e w' => e = .returned (.bool (fine n)) ∧ w = w' := by
  by_cases h1 : -1 ≤ n
  · by_cases h2 : n < 40
    all_goals
      go_enter Try.func104, Try.ntmps104
      go_wp2
      go_ret
      exact ⟨by simp [h1, h2, fine], rfl⟩
  · go_enter Try.func104, Try.ntmps104
    go_wp2
    go_ret
    exact ⟨by unfold fine; rw [decide_eq_false (by omega : ¬ -1 ≤ n)]; rfl, rfl⟩

theorem rentry_any (n : Int) (w : World) : Calls Try.prog 94 #[.int .i64 n] w
    fun e w' => e = .returned (.bool (fine n)) ∧ w = w' := by
  by_cases h0 : n = 0
  · subst h0
    go_enter Try.func94, Try.ntmps94
    go_wp2
    go_ret
    exact ⟨by simp [fine], rfl⟩
  · by_cases h1 : n = -1
    · subst h1
      go_enter Try.func94, Try.ntmps94
      go_wp2
      go_ret
      exact ⟨by simp [fine], rfl⟩
    · go_enter Try.func94, Try.ntmps94
      go_wp2_with (go_at_call 47; refine (within_any _ _ _ _).mono ?_; rintro e w' ⟨rfl, rfl⟩)
      go_ret
      refine ⟨?_, rfl⟩
      have e1 : decide (-1 ≤ n) = decide (1 ≤ n) := by rw [decide_eq_decide]; omega
      have e2 : decide (n < 40) = decide (n ≤ 39) := by rw [decide_eq_decide]; omega
      unfold fine
      rw [e1, e2]
      simp [h0, h1]

set_option maxHeartbeats 400000 in
theorem rbare_any (A : Option Addr) (n c B : Nat) (xs : List Int) (w : World) (h : Rd w B 1 A n (ints xs)) (hc : n ≤ maxLen) : Calls Try.prog 86 #[.slice A n c] w
    fun e w' => e = .returned (.bool (bare xs)) ∧ w = w' := by
  unfold maxLen at hc
  go_enter Try.func86, Try.ntmps86
  go_wp2
  go_loop [3] (fun i => ∃ k : Nat, k ≤ n ∧ i = .int .i64 k ∧ (xs.take k).all (· == 0) = true) (fun i => n - (intOf i).toNat)
  case atStart => exact ⟨0, Nat.zero_le _, rfl, by simp⟩
  case round =>
    obtain ⟨k, hk, rfl, ha⟩ := hrel
    have HA := Lib.hid ha
    clear ha
    by_cases hlt : k < n
    · obtain ⟨b, o, x, rfl, hb, hx, hcell⟩ := h.at1 hlt
      have HX := Lib.hid hx
      clear hx
      cases hp : (x != 0)
      · go_wp2
        go_round
        case rel => exact ⟨k + 1, by omega, by go_num, by rw [all_take_succ _ xs k x HX.out, HA.out]; simpa using hp⟩
        case measure => simp [intOf]; omega
      · go_wp2
        go_ret
        exact ⟨ret_bool (all_false _ xs k x HX.out (by simpa using hp)), rfl⟩
    · go_wp2
      go_ret
      exact ⟨ret_bool (all_done _ xs k (by rw [h.len]; omega) HA.out), rfl⟩

theorem entriesErr_ne {t : List Int} (h : t.length ≠ 4) : entriesErr t = 1 := by unfold entriesErr; rw [if_neg h]
theorem entriesErr_bad {t : List Int} (h : t.all fine = false) : entriesErr t = 1 := by unfold entriesErr; rw [h]; split <;> rfl
theorem entriesErr_ok {t : List Int} (h : t.length = 4) (h' : t.all fine = true) : entriesErr t = 0 := by unfold entriesErr; rw [if_pos h, h']; rfl

set_option maxHeartbeats 400000 in
theorem rcheck_any (A : Option Addr) (n c B : Nat) (xs : List Int) (w : World) (h : Rd w B 1 A n (ints xs)) (hc : n ≤ maxLen) : Calls Try.prog 85 #[.slice A n c] w
    fun e w' => e = .returned (.int .i64 (entriesErr xs)) ∧ w = w' := by
  unfold maxLen at hc
  by_cases h4 : n = 4
  · have g4 : ((n : Int) != 4) = false := by simp [h4]
    have hl : xs.length = 4 := by rw [h.len, h4]
    have HL := Lib.hid hl
    clear hl h4
    go_enter Try.func85, Try.ntmps85
    go_wp2_with fail
    go_loop [3] (fun i => ∃ k : Nat, k ≤ n ∧ i = .int .i64 k ∧ (xs.take k).all fine = true) (fun i => n - (intOf i).toNat)
    case atStart => exact ⟨0, Nat.zero_le _, rfl, by simp⟩
    case round =>
      obtain ⟨k, hk, rfl, ha⟩ := hrel
      have HA := Lib.hid ha
      clear ha
      by_cases hlt : k < n
      · obtain ⟨b, o, x, rfl, hb, hx, hcell⟩ := h.at1 hlt
        have HX := Lib.hid hx
        clear hx
        cases hp : fine x
        · go_wp2_with (go_at_call 94; refine (rentry_any _ _).mono ?_; rintro e w' ⟨rfl, rfl⟩)
          go_ret
          exact ⟨ret_int (entriesErr_bad (all_false _ xs k x HX.out hp)), rfl⟩
        · go_wp2_with (go_at_call 94; refine (rentry_any _ _).mono ?_; rintro e w' ⟨rfl, rfl⟩)
          go_round
          case rel => exact ⟨k + 1, by omega, by go_num, by rw [all_take_succ _ xs k x HX.out, HA.out, hp]; rfl⟩
          case measure => simp [intOf]; omega
      · go_wp2_with fail
        go_ret
        exact ⟨ret_int (entriesErr_ok HL.out (all_done _ xs k (by rw [h.len]; omega) HA.out)), rfl⟩
  · have g4 : ((n : Int) != 4) = true := by simp; omega
    go_enter Try.func85, Try.ntmps85
    go_wp2_with fail
    go_ret
    exact ⟨ret_int (entriesErr_ne (by rw [h.len]; exact h4)), rfl⟩
end Go.Proofs.Ytnjjnioilbnnpaa
