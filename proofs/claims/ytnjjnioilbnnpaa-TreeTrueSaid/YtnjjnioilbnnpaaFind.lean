/- slices.IndexFunc and slices.ContainsFunc over []int, at a function value that leaves the world alone. Conditions: the slice is read in a block below B; the function answers p. -/
import Derived.Test.YtnjjnioilbnnpaaBase
namespace Go.Proofs.Ytnjjnioilbnnpaa
open Go.RowKit Sl

set_option maxHeartbeats 400000 in
theorem indexInts (K : Nat) (p : Int → Bool) (A : Option Addr) (n c B : Nat) (xs : List Int) (w : World) (h : Rd w B 1 A n (ints xs)) (hc : n ≤ maxLen)
    (hk : ∀ (vs : Array Value) (W : World), (callFunc K vs).run Try.prog W = .ok (.enter K vs) W)
    (hf : ∀ x, Calls Try.prog K #[.int .i64 x] w fun e w' => e = .returned (.bool (p x)) ∧ w = w') :
    Calls Try.prog 71 #[.slice A n c, .func (.func K) #[] #[]] w
    fun e w' => e = .returned (.int .i64 (indexOf p xs)) ∧ w = w' := by
  unfold maxLen at hc
  have HF := Lib.hid hf
  clear hf
  go_enter Try.func71, Try.ntmps71
  go_wp2_with fail
  go_loop [8, 5] (fun i _ => ∃ k : Nat, k ≤ n ∧ i = .int .i64 k ∧ (xs.take k).all (fun y => !p y) = true) (fun i _ => n - (intOf i).toNat)
  case atStart => exact ⟨0, Nat.zero_le _, rfl, by simp⟩
  case round =>
    obtain ⟨k, hkn, rfl, ha⟩ := hrel
    have HA := Lib.hid ha
    clear ha
    by_cases hlt : k < n
    · obtain ⟨b, o, x, rfl, hb, hx, hcell⟩ := h.at1 hlt
      have HX := Lib.hid hx
      clear hx
      cases hp : p x
      · go_wp2_with (refine (HF.out _).mono ?_; rintro e w' ⟨rfl, rfl⟩)
        go_round
        case rel => exact ⟨k + 1, by omega, by go_num, by rw [all_take_succ _ xs k x HX.out, HA.out, hp]; rfl⟩
        case measure => simp [intOf]; omega
      · go_wp2_with (refine (HF.out _).mono ?_; rintro e w' ⟨rfl, rfl⟩)
        go_ret
        exact ⟨ret_int (indexOf_hit p xs k x HX.out hp HA.out), rfl⟩
    · go_wp2_with fail
      go_ret
      exact ⟨ret_int (indexOf_none p xs (all_done _ xs k (by rw [h.len]; omega) HA.out)), rfl⟩

set_option maxHeartbeats 400000 in
theorem containsInts (K : Nat) (p : Int → Bool) (A : Option Addr) (n c B : Nat) (xs : List Int) (w : World) (h : Rd w B 1 A n (ints xs)) (hc : n ≤ maxLen)
    (hk : ∀ (vs : Array Value) (W : World), (callFunc K vs).run Try.prog W = .ok (.enter K vs) W)
    (hf : ∀ x, Calls Try.prog K #[.int .i64 x] w fun e w' => e = .returned (.bool (p x)) ∧ w = w') :
    Calls Try.prog 43 #[.slice A n c, .func (.func K) #[] #[]] w
    fun e w' => e = .returned (.bool (xs.any p)) ∧ w = w' := by
  have HI := Lib.hid (indexInts K p A n c B xs w h hc hk hf)
  clear hf hk
  go_enter Try.func43, Try.ntmps43
  go_wp2_with (go_at_call 71; refine HI.out.mono ?_; rintro e w' ⟨rfl, rfl⟩)
  go_ret
  exact ⟨ret_bool (indexOf_any p xs).symm, rfl⟩

set_option maxRecDepth 100000 in
set_option maxHeartbeats 400000 in
theorem indexSlots (K : Nat) (p : Slot → Bool) (A : Option Addr) (n c B : Nat) (l : List Slot) (w : World) (h : SlotsR w B A n l) (hB : B ≤ w.heap.size) (hc : n ≤ 4611686018427387903)
    (hk : ∀ (vs : Array Value) (W : World), (callFunc K vs).run Try.prog W = .ok (.enter K vs) W)
    (hf : ∀ (s : Slot) (tA : Option Addr) (tn tc : Nat) (W : World), B ≤ W.heap.size → SlotV W B s tA tn tc → Calls Try.prog K #[.agg #[.int .i64 s.kind, .string s.data, .slice tA tn tc]] W fun e w' => e = .returned (.bool (p s)) ∧ Below W.heap.size W w') :
    Calls Try.prog 87 #[.slice A n c, .func (.func K) #[] #[]] w
    fun e w' => e = .returned (.int .i64 (indexOf p l)) ∧ Below w.heap.size w w' := by
  have HF := Lib.hid hf
  clear hf
  go_enter Try.func87, Try.ntmps87
  go_wp2_with fail
  go_loopw [8, 5] (fun i _ wr => ∃ k : Nat, k ≤ n ∧ i = .int .i64 k ∧ (l.take k).all (fun y => !p y) = true ∧ Below w.heap.size w wr) (fun i _ _ => n - (intOf i).toNat)
  case atStart => exact ⟨0, Nat.zero_le _, rfl, by simp, Below.refl _ _⟩
  case round =>
    obtain ⟨k, hkn, rfl, ha, hbw⟩ := hrel
    have HA := Lib.hid ha
    clear ha
    by_cases hlt : k < n
    · obtain ⟨b, o, s, tA, tn, tc, rfl, hb, hx, h0, h1, h2, hs⟩ := (h.below hbw hB).at_ hlt
      have HX := Lib.hid hx
      clear hx
      have hz := hbw.size
      cases hp : p s
      · go_wp2_with (refine (HF.out s tA tn tc _ (by omega) hs).mono ?_; rintro e w' ⟨rfl, hb'⟩)
        go_roundw
        case rel => exact ⟨k + 1, by omega, by go_num, by rw [all_take_succ _ l k s HX.out, HA.out, hp]; rfl, hbw.trans (hb'.mono hz)⟩
        case measure => simp [intOf]; omega
      · go_wp2_with (refine (HF.out s tA tn tc _ (by omega) hs).mono ?_; rintro e w' ⟨rfl, hb'⟩)
        go_ret
        exact ⟨ret_int (indexOf_hit p l k s HX.out hp HA.out), hbw.trans (hb'.mono hz)⟩
    · go_wp2_with fail
      go_ret
      exact ⟨ret_int (indexOf_none p l (all_done _ l k (by rw [h.1]; omega) HA.out)), hbw⟩
end Go.Proofs.Ytnjjnioilbnnpaa
