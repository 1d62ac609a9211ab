/- Small functions of package tree and of the reference: Wants, kind, told, Entry, page. Conditions: the image is read below the heap's size. -/
import Derived.Test.YtnjjnioilbnnpaaImg
import Derived.Test.YtnjjnioilbnnpaaEntry
namespace Go.Proofs.Ytnjjnioilbnnpaa
open Go.RowKit Sl

theorem wants_any (g : Int) (w : World) (h0 : 0 ≤ g) (h1 : g ≤ 1000000) : Calls Try.prog 72 #[.int .i64 g] w fun e w' => e = .returned (.int .i64 (wants g)) ∧ w = w' := by
  go_enter Try.func72, Try.ntmps72
  go_wp2
  go_ret
  exact ⟨ret_int (by unfold wants; rw [show g + 4 - 1 = g + 3 from by omega]), rfl⟩
theorem rwants_any (g : Int) (w : World) (h0 : 0 ≤ g) (h1 : g ≤ 1000000) : Calls Try.prog 75 #[.int .i64 g] w fun e w' => e = .returned (.int .i64 (wants g)) ∧ w = w' := by
  go_enter Try.func75, Try.ntmps75
  go_wp2
  go_ret
  exact ⟨ret_int (by unfold wants; rw [show g + 4 - 1 = g + 3 from by omega]), rfl⟩

theorem kindOf_no {l : List Slot} {x : Int} (h : x < 1 ∨ (l.length : Int) ≤ x) : kindOf l x = -1 := by unfold kindOf; rw [if_neg (by omega)]
theorem kindOf_at {l : List Slot} {k : Nat} {s : Slot} (h : 1 ≤ k) (hs : l[k]? = some s) : kindOf l k = s.kind := by
  have hl : k < l.length := (List.getElem?_eq_some_iff.1 hs).1
  unfold kindOf; rw [if_pos (by omega), Int.toNat_natCast, hs]; rfl

set_option maxRecDepth 100000 in
set_option maxHeartbeats 400000 in
theorem kind_any (v : IV) (m : Img) (x : Int) (w : World) (h : ImgR w w.heap.size v m) :
    Calls Try.prog 45 #[.agg #[.int .i64 m.guest, .slice v.rA v.rn v.rc, .slice v.sA v.sn v.sc, .slice v.fA v.fn v.fc, .slice v.pA v.pn v.pc], .int .i64 x] w fun e w' => e = .returned (.int .i64 (kindOf m.slots x)) ∧ Below w.heap.size w w' := by
  obtain ⟨rA, rn, rc, sA, sn, sc, fA, fn, fc, pA, pn, pc⟩ := v
  dsimp only
  have hl : m.slots.length = sn := h.slen
  by_cases h1 : x < 1
  · have R := Lib.hid (kindOf_no (l := m.slots) (.inl h1))
    clear h hl
    go_enter Try.func45, Try.ntmps45
    go_wp2
    go_ret
    exact ⟨ret_int R.out, below1 _ _⟩
  · have h1' : 1 ≤ x := by omega
    obtain ⟨k, rfl⟩ := Int.eq_ofNat_of_zero_le (a := x) (by omega)
    by_cases h2 : (sn : Int) ≤ k
    · have R := Lib.hid (kindOf_no (l := m.slots) (x := k) (.inr (by omega)))
      clear h hl
      go_enter Try.func45, Try.ntmps45
      go_wp2
      go_ret
      exact ⟨ret_int R.out, below1 _ _⟩
    · obtain ⟨b, o, s, tA, tn, tc, rfl, hb, hx, c0, c1, c2, hs⟩ := h.slots.at_ (k := k) (by dsimp only; omega)
      have R := Lib.hid (kindOf_at (by omega) hx)
      have h2' : (k : Int) < sn := by omega
      have c0' := (below1 w (.cells #[.int .i64 m.guest, .slice rA rn rc, .slice (some ⟨b, o, none⟩) sn sc, .slice fA fn fc, .slice pA pn pc] 26)).cell (p := ⟨b, o + k * 3, none⟩) hb |>.trans c0
      clear h hl hx c0 c1 c2 hs
      go_enter Try.func45, Try.ntmps45
      go_wp2
      go_ret
      exact ⟨ret_int R.out, below1 _ _⟩

set_option maxRecDepth 100000 in
set_option maxHeartbeats 400000 in
theorem rkind_any (v : IV) (m : Img) (x : Int) (w : World) (h : ImgR w w.heap.size v m) :
    Calls Try.prog 50 #[.agg #[.int .i64 m.guest, .slice v.rA v.rn v.rc, .slice v.sA v.sn v.sc, .slice v.fA v.fn v.fc, .slice v.pA v.pn v.pc], .int .i64 x] w fun e w' => e = .returned (.int .i64 (kindOf m.slots x)) ∧ Below w.heap.size w w' := by
  obtain ⟨rA, rn, rc, sA, sn, sc, fA, fn, fc, pA, pn, pc⟩ := v
  dsimp only
  have hl : m.slots.length = sn := h.slen
  have hsn : sn ≤ 4611686018427387903 := Nat.le_trans h.sle h.scap
  by_cases h1 : 1 ≤ x ∧ x ≤ (sn : Int) - 1
  · obtain ⟨h1, h2⟩ := h1
    have g1 : (decide (1 ≤ x) && decide (x ≤ (sn : Int) - 1)) = true := by simp; omega
    obtain ⟨k, rfl⟩ := Int.eq_ofNat_of_zero_le (a := x) (by omega)
    obtain ⟨b, o, s, tA, tn, tc, rfl, hb, hx, c0, c1, c2, hs⟩ := h.slots.at_ (k := k) (by dsimp only; omega)
    have R := Lib.hid (kindOf_at (by omega) hx)
    have c0' := (below1 w (.cells #[.int .i64 m.guest, .slice rA rn rc, .slice (some ⟨b, o, none⟩) sn sc, .slice fA fn fc, .slice pA pn pc] 26)).cell (p := ⟨b, o + k * 3, none⟩) hb |>.trans c0
    have h2' : (k : Int) < sn := by omega
    clear h hl hx c0 c1 c2 hs
    go_enter Try.func50, Try.ntmps50
    go_wp2_with (go_at_call 47; refine (within_any _ _ _ _).mono ?_; rintro e w' ⟨rfl, rfl⟩)
    go_ret
    exact ⟨ret_int R.out, below1 _ _⟩
  · have R := Lib.hid (kindOf_no (l := m.slots) (x := x) (by omega))
    have g1 : (decide (1 ≤ x) && decide (x ≤ (sn : Int) - 1)) = false := by rw [Bool.eq_false_iff]; simp; omega
    clear h hl h1
    go_enter Try.func50, Try.ntmps50
    go_wp2_with (go_at_call 47; refine (within_any _ _ _ _).mono ?_; rintro e w' ⟨rfl, rfl⟩)
    go_ret
    exact ⟨ret_int R.out, below1 _ _⟩

theorem told_take_succ (l : List Int) (n : Int) (k : Nat) (x : Int) (h : l[k]? = some x) : told (l.take (k + 1)) n = told (l.take k) n + (if x = n then 1 else 0) := by
  unfold told; rw [List.take_add_one, h, List.countP_append]; simp [List.countP_cons]
theorem told_le (l : List Int) (n : Int) : told l n ≤ l.length := List.countP_le_length
theorem told_all (l : List Int) (n : Int) (k : Nat) (h : l.length ≤ k) : told (l.take k) n = told l n := by rw [List.take_of_length_le h]

set_option maxHeartbeats 400000 in
theorem told_any (A : Option Addr) (n c B : Nat) (xs : List Int) (y : Int) (w : World) (h : Rd w B 1 A n (ints xs)) (hc : n ≤ 4611686018427387903) : Calls Try.prog 53 #[.slice A n c, .int .i64 y] w
    fun e w' => e = .returned (.int .i64 (told xs y : Nat)) ∧ w = w' := by
  go_enter Try.func53, Try.ntmps53
  go_wp2
  go_loop [5, 6] (fun t i => ∃ k : Nat, k ≤ n ∧ i = .int .i64 k ∧ t = .int .i64 (told (xs.take k) y : Nat)) (fun _ i => n - (intOf i).toNat)
  case atStart => exact ⟨0, Nat.zero_le _, rfl, rfl⟩
  case round =>
    obtain ⟨k, hk, rfl, rfl⟩ := hrel
    have hu := told_le (xs.take k) y
    rw [List.length_take] at hu
    have hu' : told (xs.take k) y ≤ n := by omega
    clear hu
    by_cases hlt : k < n
    · obtain ⟨b, o, x, rfl, hb, hx, hcell⟩ := h.at1 hlt
      have HU := Lib.hid (told_take_succ xs y k x hx)
      clear hx
      cases hp : (x == y)
      · go_wp2
        go_round
        case rel => exact ⟨k + 1, by omega, by go_num, by rw [HU.out, if_neg (by simpa using hp)]; go_num⟩
        case measure => simp [intOf]; omega
      · go_wp2
        go_round
        case rel => exact ⟨k + 1, by omega, by go_num, by rw [HU.out, if_pos (by simpa using hp)]; rfl⟩
        case measure => simp [intOf]; omega
    · go_wp2
      go_ret
      exact ⟨ret_int (by rw [told_all _ _ _ (by rw [h.len]; omega)]), rfl⟩
end Go.Proofs.Ytnjjnioilbnnpaa
