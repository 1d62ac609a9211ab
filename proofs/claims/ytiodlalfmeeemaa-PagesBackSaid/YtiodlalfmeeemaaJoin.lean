/- pages.Join and Patch, and the reference's. Conditions: the pages are read in blocks below the heap's size. -/
import Derived.Test.YtiodlalfmeeemaaSplit
import Derived.Lib.Join
import Derived.Lib.LazyBuf
namespace Go.Proofs.Ytiodlalfmeeemaa
open Go.RowKit Sl

theorem flat_len (l : List ByteArray) (h : l.all isPage = true) : ((l.map toL).flatten).length = 4 * l.length := by
  induction l with
  | nil => rfl
  | cons a l ih =>
    simp only [List.all_cons, Bool.and_eq_true] at h
    have ha : a.size = 4 := by have := h.1; unfold isPage at this; simpa using this
    simp only [List.map_cons, List.flatten_cons, List.length_append, List.length_cons, ih h.2, toL_len, ha]; omega
theorem join_flat (l : List ByteArray) : Lib.join (l.map (·.data.toList)) [] = (l.map toL).flatten := by
  unfold Lib.join toL
  generalize l.map (fun x => x.data.toList) = L
  induction L with
  | nil => rfl
  | cons a L ih =>
    cases L with
    | nil => simp [List.intercalate]
    | cons b L => rw [List.intercalate_cons_cons, ih]; simp

set_option maxRecDepth 100000 in
set_option maxHeartbeats 400000 in
theorem join_any (A : Option Addr) (n c : Nat) (l : List ByteArray) (w : World) (h : StrsR w w.heap.size A n l) (hn : n ≤ c) (hc : n ≤ 4611686018427387903) :
    Calls Try.prog 29 #[.slice A n c] w fun e w' => e = .returned (.tuple #[.string (joinV l), .int .i64 (pagesErr l)]) ∧ Below w.heap.size w w' := by
  have HK := Lib.hid (pcheck_any A n c l w h hc)
  by_cases he : pagesErr l = 0
  · rw [he] at HK ⊢
    obtain ⟨l16, lall⟩ := pagesErr_len he
    have hln := h.len
    have hv : joinV l = ofL (l.map toL).flatten := by unfold joinV; rw [if_pos he]
    have hJ : Calls Try.prog 59 #[.slice A n c, .string { data := #[] }] w fun e w' => e = .returned (.string (joinV l)) ∧ Below w.heap.size w w' := by
      by_cases h0 : n = 0
      · subst h0
        have hl0 : l = [] := List.eq_nil_of_length_eq_zero hln
        subst hl0
        refine (Try.strings_Join_none A c _ w).mono ?_
        rintro e w' ⟨rfl, rfl⟩
        exact ⟨by rw [hv]; rfl, Below.refl _ _⟩
      · obtain ⟨b, o, rfl, hb, hcell⟩ := h.1.2 (by omega)
        have := Try.strings_Join b o c l { data := #[] } w (fun j x hx => hcell j (.string x) (by rw [List.getElem?_map, hx]; rfl)) hb (by omega) (by omega)
          (by rw [show ({ data := #[] } : ByteArray).data.toList = [] from rfl, join_flat, flat_len l lall]; omega)
        rw [hln] at this
        refine this.mono ?_
        rintro e w' ⟨rfl, hb'⟩
        exact ⟨by rw [hv, show ({ data := #[] } : ByteArray).data.toList = [] from rfl, join_flat]; rfl, hb'⟩
    have HJ := Lib.hid hJ
    clear hJ h he hv
    go_enter Try.func29, Try.ntmps29
    go_wp2_with (first | (go_at_call 34; refine HK.out.mono ?_; rintro e w1 ⟨rfl, rfl⟩) | (go_at_call 59; refine HJ.out.mono ?_; rintro e w2 ⟨rfl, hb2⟩))
    go_ret2
    exact ⟨rfl, hb2⟩
  · have he' : (pagesErr l != 0) = true := by simpa using he
    have R : noP = joinV l := by unfold joinV; rw [if_neg he]
    have R' := Lib.hid R
    clear h he R
    go_enter Try.func29, Try.ntmps29
    go_wp2_with (go_at_call 34; refine HK.out.mono ?_; rintro e w1 ⟨rfl, rfl⟩)
    go_ret2
    exact ⟨ret_si R'.out.symm rfl, Below.refl _ _⟩

/-- What the reference's loop has joined after k pages. -/
def joined (l : List ByteArray) (k : Nat) : ByteArray := ofL ((l.take k).map toL).flatten
theorem joined_succ (l : List ByteArray) (k : Nat) (s : ByteArray) (h : l[k]? = some s) : joined l k ++ s = joined l (k + 1) := by
  apply toL_eq
  rw [toL_append, joined, joined, toL_ofL, toL_ofL, List.take_add_one, h]
  simp
theorem joined_size (l : List ByteArray) (k : Nat) (h : l.all isPage = true) (hl : l.length ≤ 16) : (joined l k).size ≤ 64 := by
  rw [← toL_len, joined, toL_ofL, flat_len]
  · rw [List.length_take]; omega
  · rw [List.all_eq_true] at *; intro x hx; exact h x (List.mem_of_mem_take hx)

set_option maxRecDepth 100000 in
set_option maxHeartbeats 400000 in
theorem rjoin_any (A : Option Addr) (n c : Nat) (l : List ByteArray) (w : World) (h : StrsR w w.heap.size A n l) (he : pagesErr l = 0) :
    Calls Try.prog 32 #[.slice A n c] w fun e w' => e = .returned (.string (joinV l)) ∧ w = w' := by
  obtain ⟨l16, lall⟩ := pagesErr_len he
  have hv : joinV l = joined l n := by unfold joinV joined; rw [if_pos he, List.take_of_length_le (by rw [h.len]; exact Nat.le_refl _)]
  have HV := Lib.hid hv
  have hn : n ≤ 16 := by rw [← h.len]; exact l16
  have HA := Lib.hid lall
  clear he hv lall
  go_enter Try.func32, Try.ntmps32
  go_wp2_with fail
  go_loop [4, 3] (fun iv sv => ∃ k : Nat, k ≤ n ∧ iv = .int .i64 k ∧ sv = .string (joined l k)) (fun iv _ => n - (intOf iv).toNat)
  case atStart => exact ⟨0, Nat.zero_le _, rfl, rfl⟩
  case round =>
    obtain ⟨k, hkn, rfl, rfl⟩ := hrel
    by_cases hlt : k < n
    · obtain ⟨b, o, s, rfl, hb, hs, hcell, hsz⟩ := h.at_ hlt
      have HS := Lib.hid (joined_succ l k s hs)
      have hz := joined_size l k HA.out l16
      clear hs
      generalize joined l k = t at HS hz
      go_wp2_with fail
      go_round
      case rel => exact ⟨k + 1, by omega, by go_num, by rw [← HS.out]⟩
      case measure => simp [intOf]; omega
    · have hkk : k = n := by omega
      subst hkk
      go_wp2_with fail
      go_ret
      exact ⟨by rw [HV.out]; rfl, rfl⟩
end Go.Proofs.Ytiodlalfmeeemaa
