/- entry.Check and entry.Bare. Conditions: the slice is read in a block below B. -/
import Derived.Test.YtnjjnioilbnnpaaEntry
import Derived.Test.YtnjjnioilbnnpaaFind
namespace Go.Proofs.Ytnjjnioilbnnpaa
open Go.RowKit Sl

theorem checkfn_any (n : Int) (w : World) : Calls Try.prog 103 #[.int .i64 n] w fun e w' => e = .returned (.bool (!fine n)) ∧ w = w' := by
  go_enter Try.func103, Try.ntmps103
  go_wp2_with (go_at_call 104; refine (fine_any _ _).mono ?_; rintro e w' ⟨rfl, rfl⟩)
  go_ret
  exact ⟨rfl, rfl⟩
theorem barefn_any (n : Int) (w : World) : Calls Try.prog 96 #[.int .i64 n] w fun e w' => e = .returned (.bool (n != 0)) ∧ w = w' := by
  go_enter Try.func96, Try.ntmps96
  go_wp2
  go_ret
  exact ⟨rfl, rfl⟩

theorem any_not {α : Type} (p : α → Bool) (l : List α) : l.any (fun x => !p x) = !l.all p := by
  induction l with
  | nil => rfl
  | cons x l ih => simp [ih]

set_option maxHeartbeats 400000 in
theorem echeck_any (A : Option Addr) (n c B : Nat) (xs : List Int) (w : World) (h : Rd w B 1 A n (ints xs)) (hc : n ≤ maxLen) : Calls Try.prog 95 #[.slice A n c] w
    fun e w' => e = .returned (.int .i64 (entriesErr xs)) ∧ w = w' := by
  have HC := Lib.hid (containsInts 103 (fun x => !fine x) A n c B xs w h hc (fun _ _ => by kernel_rfl) (fun x => checkfn_any x w))
  by_cases h4 : n = 4
  · have g4 : ((n : Int) != 4) = false := by simp [h4]
    have hl : xs.length = 4 := by rw [h.len, h4]
    have HL := Lib.hid hl
    clear hl h4
    cases hp : xs.all fine
    · have hq : xs.any (fun x => !fine x) = true := by rw [any_not, hp]; rfl
      go_enter Try.func95, Try.ntmps95
      go_wp2_with (go_at_call 43; refine HC.out.mono ?_; rintro e w' ⟨rfl, rfl⟩)
      go_ret
      exact ⟨ret_int (entriesErr_bad hp), rfl⟩
    · have hq : xs.any (fun x => !fine x) = false := by rw [any_not, hp]; rfl
      go_enter Try.func95, Try.ntmps95
      go_wp2_with (go_at_call 43; refine HC.out.mono ?_; rintro e w' ⟨rfl, rfl⟩)
      go_ret
      exact ⟨ret_int (entriesErr_ok HL.out hp), rfl⟩
  · have g4 : ((n : Int) != 4) = true := by simp; omega
    go_enter Try.func95, Try.ntmps95
    go_wp2_with fail
    go_ret
    exact ⟨ret_int (entriesErr_ne (by rw [h.len]; exact h4)), rfl⟩

def bareAns (t : List Int) : Bool := entriesErr t == 0 && bare t
set_option maxHeartbeats 400000 in
theorem ebare_any (A : Option Addr) (n c B : Nat) (xs : List Int) (w : World) (h : Rd w B 1 A n (ints xs)) (hc : n ≤ maxLen) : Calls Try.prog 91 #[.slice A n c] w
    fun e w' => e = .returned (.tuple #[.bool (bareAns xs), .int .i64 (entriesErr xs)]) ∧ w = w' := by
  have HC := Lib.hid (containsInts 96 (fun x => x != 0) A n c B xs w h hc (fun _ _ => by kernel_rfl) (fun x => barefn_any x w))
  have HK := Lib.hid (echeck_any A n c B xs w h hc)
  have hb : (xs.any fun x => x != 0) = !bare xs := by
    unfold bare; rw [← any_not]; rfl
  have HB := Lib.hid hb
  clear hb
  cases he : (entriesErr xs == 0)
  · have he' : (entriesErr xs != 0) = true := by simpa using he
    have hv : bareAns xs = false := by unfold bareAns; rw [he]; rfl
    have HV := Lib.hid hv
    clear hv
    go_enter Try.func91, Try.ntmps91
    go_wp2_with (go_at_call 95; refine HK.out.mono ?_; rintro e w' ⟨rfl, rfl⟩)
    go_ret2
    exact ⟨ret_bi HV.out rfl, rfl⟩
  · have he' : (entriesErr xs != 0) = false := by simpa using he
    have h0 : entriesErr xs = 0 := by simpa using he
    have hv : bareAns xs = bare xs := by unfold bareAns; rw [he]; rfl
    have HV := Lib.hid hv
    have H0 := Lib.hid h0
    clear hv h0
    go_enter Try.func91, Try.ntmps91
    go_wp2_with (first | (go_at_call 95; refine HK.out.mono ?_; rintro e w' ⟨rfl, rfl⟩) | (go_at_call 43; refine HC.out.mono ?_; rintro e w' ⟨rfl, rfl⟩))
    go_ret2
    exact ⟨ret_bi (by rw [HV.out, HB.out]; simp) H0.out, rfl⟩
end Go.Proofs.Ytnjjnioilbnnpaa
