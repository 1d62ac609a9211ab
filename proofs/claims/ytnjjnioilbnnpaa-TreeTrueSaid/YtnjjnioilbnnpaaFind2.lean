/- slices.IndexFunc and slices.ContainsFunc over []int, at a function value that has captured one value and makes blocks of its own. Conditions: the slice is read in a block below B; the function answers p. -/
import Derived.Test.YtnjjnioilbnnpaaFind
namespace Go.Proofs.Ytnjjnioilbnnpaa
open Go.RowKit Sl

set_option maxHeartbeats 400000 in
theorem indexIntsC (K : Nat) (q : Value) (p : Int → Bool) (A : Option Addr) (n c B : Nat) (xs : List Int) (w : World) (h : Rd w B 1 A n (ints xs)) (hB : B ≤ w.heap.size) (hc : n ≤ 4611686018427387903)
    (hk : ∀ (vs : Array Value) (W : World), (callFunc K vs).run Try.prog W = .ok (.enter K vs) W)
    (hf : ∀ x W, Below w.heap.size w W → Calls Try.prog K #[.int .i64 x, q] W fun e w' => e = .returned (.bool (p x)) ∧ Below W.heap.size W w') :
    Calls Try.prog 71 #[.slice A n c, .func (.func K) #[] #[q]] w
    fun e w' => e = .returned (.int .i64 (indexOf p xs)) ∧ Below w.heap.size w w' := by
  have HF := Lib.hid hf
  clear hf
  go_enter Try.func71, Try.ntmps71
  go_wp2_with fail
  go_loopw [8, 5] (fun i _ wr => ∃ k : Nat, k ≤ n ∧ i = .int .i64 k ∧ (xs.take k).all (fun y => !p y) = true ∧ Below w.heap.size w wr) (fun i _ _ => n - (intOf i).toNat)
  case atStart => exact ⟨0, Nat.zero_le _, rfl, by simp, Below.refl _ _⟩
  case round =>
    obtain ⟨k, hkn, rfl, ha, hbw⟩ := hrel
    have HA := Lib.hid ha
    clear ha
    by_cases hlt : k < n
    · obtain ⟨b, o, x, rfl, hb, hx, hcell⟩ := (h.below hbw hB).at1 hlt
      have HX := Lib.hid hx
      clear hx
      have hz := hbw.size
      cases hp : p x
      · go_wp2_with (refine (HF.out x _ hbw).mono ?_; rintro e w' ⟨rfl, hb'⟩)
        go_roundw
        case rel => exact ⟨k + 1, by omega, by go_num, by rw [all_take_succ _ xs k x HX.out, HA.out, hp]; rfl, hbw.trans (hb'.mono hz)⟩
        case measure => simp [intOf]; omega
      · go_wp2_with (refine (HF.out x _ hbw).mono ?_; rintro e w' ⟨rfl, hb'⟩)
        go_ret
        exact ⟨ret_int (indexOf_hit p xs k x HX.out hp HA.out), hbw.trans (hb'.mono hz)⟩
    · go_wp2_with fail
      go_ret
      exact ⟨ret_int (indexOf_none p xs (all_done _ xs k (by rw [h.len]; omega) HA.out)), hbw⟩

theorem containsIntsC (K : Nat) (q : Value) (p : Int → Bool) (A : Option Addr) (n c B : Nat) (xs : List Int) (w : World) (h : Rd w B 1 A n (ints xs)) (hB : B ≤ w.heap.size) (hc : n ≤ 4611686018427387903)
    (hk : ∀ (vs : Array Value) (W : World), (callFunc K vs).run Try.prog W = .ok (.enter K vs) W)
    (hf : ∀ x W, Below w.heap.size w W → Calls Try.prog K #[.int .i64 x, q] W fun e w' => e = .returned (.bool (p x)) ∧ Below W.heap.size W w') :
    Calls Try.prog 43 #[.slice A n c, .func (.func K) #[] #[q]] w
    fun e w' => e = .returned (.bool (xs.any p)) ∧ Below w.heap.size w w' := by
  have HI := Lib.hid (indexIntsC K q p A n c B xs w h hB hc hk hf)
  clear hf hk h hB
  go_enter Try.func43, Try.ntmps43
  go_wp2_with (go_at_call 71; refine HI.out.mono ?_; rintro e w' ⟨rfl, hb⟩)
  go_ret
  exact ⟨ret_bool (indexOf_any p xs).symm, hb⟩
end Go.Proofs.Ytnjjnioilbnnpaa
