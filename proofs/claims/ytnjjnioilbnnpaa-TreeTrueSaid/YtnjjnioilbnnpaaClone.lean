/- slices.Clone at []string and []int. Conditions: the argument is read in blocks below the heap's size. -/
import Derived.Test.YtnjjnioilbnnpaaOwn
namespace Go.Proofs.Ytnjjnioilbnnpaa
open Go.RowKit Sl

theorem Try.infoInt : (Try.prog.info? 3).map (fun i => (i.zero, i.size, i.bytes)) = some (some (.int .i64 0), 1, 8) := by kernel_rfl
theorem Try.infoStr : (Try.prog.info? 9).map (fun i => (i.zero, i.size, i.bytes)) = some (some (.string { data := #[] }), 1, 16) := by kernel_rfl

set_option maxRecDepth 100000 in
set_option maxHeartbeats 400000 in
theorem cloneInts (A : Option Addr) (n c : Nat) (cs : List Value) (w : World) (h : Rd w w.heap.size 1 A n cs) (h1 : ∀ u ∈ cs, u.oneCell' = true) (hn : n ≤ 1000000) :
    Calls Try.prog 76 #[.slice A n c] w (OwnRes w.heap.size 3 1 n cs w) := by
  obtain ⟨i0, hi0, hz0, hz1, hz2⟩ := info_parts Try.infoInt
  have he := fun (W : World) => Lib.run_eql_slice_nil (P := Try.prog) W 22 3 A n c 0 0 Try.underlying22
  cases A with
  | none =>
    have hn0 : n = 0 := by
      rcases Nat.eq_zero_or_pos n with h0 | h0
      · exact h0
      · obtain ⟨b, o, h, _⟩ := h.2 h0
        cases h
    subst hn0
    have hcs : cs = [] := List.eq_nil_of_length_eq_zero (by simpa using h.1)
    subst hcs
    go_enter Try.func76, Try.ntmps76
    go_wp2_with fail
    go_ret
    exact ⟨_, _, rfl, World.ownsRow_nil _ _ _ _, Below.refl _ _, Nat.le_refl _, by simp⟩
  | some a =>
    obtain ⟨A', c', w', hrun, hown, hb, hc1, hc2, hg, _⟩ := run_app (P := Try.prog) (w.alloc (.cells #[] 3)) w.heap.size 22 22 3 i0 _ 1 8 Try.underlying22 hi0 hz0 hz1 hz2 rfl (by omega) _ 0 []
      (own_new w _ _ _ (Nat.le_refl _)) w.heap.size (some a) n c cs (h.below ((Below.refl _ _).alloc (Nat.le_refl _) _) (Nat.le_refl _)) h1 (by omega) (by unfold maxLen; omega) (by simp)
    rw [Nat.zero_add] at hrun hown hc1
    rw [List.nil_append] at hown
    go_enter Try.func76, Try.ntmps76
    have HR := Lib.hid hrun
    clear hrun
    go_wp2_with (at_builtin; refine wpList_app rfl _ _ _ _ rfl rfl rfl rfl HR.out ?_)
    go_ret
    exact ⟨_, _, rfl, hown, ((Below.refl _ _).alloc (Nat.le_refl _) _).trans hb, hc1, hc2⟩
end Go.Proofs.Ytnjjnioilbnnpaa
