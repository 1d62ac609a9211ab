/- The walks of kinds and Roots. Conditions: as each text says. -/
import Derived.Test.YtbhhcjnjddcocaaMemA
import Derived.Test.YtbhhcjnjddcocaaSlotsA
import Derived.StillTailTactics
-- Tree1: Small functions of package tree and of the reference: Wants, kind, told, Entry, page. Conditions: the image is read below the heap's size.
namespace Go.Proofs.Ytbhhcjnjddcocaa
open Go.RowKit Sl

theorem wants_any (g : Int) (w : World) (h0 : 0 ≤ g) (h1 : g ≤ 1000000) : Calls Try.prog 39 #[.int .i64 g] w fun e w' => e = .returned (.int .i64 (wants g)) ∧ w = w' := by
  go_enter Try.func39, Try.ntmps39
  go_wp2
  go_ret
  exact ⟨ret_int (by unfold wants; rw [show g + 4 - 1 = g + 3 from by omega]), rfl⟩
theorem rwants_any (g : Int) (w : World) (h0 : 0 ≤ g) (h1 : g ≤ 1000000) : Calls Try.prog 29 #[.int .i64 g] w fun e w' => e = .returned (.int .i64 (wants g)) ∧ w = w' := by
  go_enter Try.func29, Try.ntmps29
  go_wp2
  go_ret
  exact ⟨ret_int (by unfold wants; rw [show g + 4 - 1 = g + 3 from by omega]), rfl⟩

theorem kindOf_no {l : List Slot} {x : Int} (h : x < 1 ∨ (l.length : Int) ≤ x) : kindOf l x = -1 := by unfold kindOf; rw [if_neg (by omega)]
theorem kindOf_at {l : List Slot} {k : Nat} {s : Slot} (h : 1 ≤ k) (hs : l[k]? = some s) : kindOf l k = s.kind := by
  have hl : k < l.length := (List.getElem?_eq_some_iff.1 hs).1
  unfold kindOf; rw [if_pos (by omega), Int.toNat_natCast, hs]; rfl

set_option maxRecDepth 100000 in
set_option maxHeartbeats 400000 in
theorem kind_any (v : IV) (m : Img) (x : Int) (w : World) (h : ImgR w w.heap.size v m) :
    Calls Try.prog 45 #[.agg #[.int .i64 m.guest, .slice v.rA v.rn v.rc, .slice v.sA v.sn v.sc, .slice v.fA v.fn v.fc, .slice v.pA v.pn v.pc], .int .i64 x] w fun e w' => e = .returned (.int .i64 (kindOf m.slots x)) ∧ Below w.heap.size w w' := by
  obtain ⟨rA, rn, rc, sA, sn, sc, fA, fn, fc, pA, pn, pc⟩ := v
  dsimp only
  have hl : m.slots.length = sn := h.slen
  by_cases h1 : x < 1
  · have R := Lib.hid (kindOf_no (l := m.slots) (.inl h1))
    clear h hl
    go_enter Try.func45, Try.ntmps45
    go_wp2
    go_ret
    exact ⟨ret_int R.out, below1 _ _⟩
  · have h1' : 1 ≤ x := by omega
    obtain ⟨k, rfl⟩ := Int.eq_ofNat_of_zero_le (a := x) (by omega)
    by_cases h2 : (sn : Int) ≤ k
    · have R := Lib.hid (kindOf_no (l := m.slots) (x := k) (.inr (by omega)))
      clear h hl
      go_enter Try.func45, Try.ntmps45
      go_wp2
      go_ret
      exact ⟨ret_int R.out, below1 _ _⟩
    · obtain ⟨b, o, s, tA, tn, tc, rfl, hb, hx, c0, c1, c2, hs⟩ := h.slots.at_ (k := k) (by dsimp only; omega)
      have R := Lib.hid (kindOf_at (by omega) hx)
      have h2' : (k : Int) < sn := by omega
      have c0' := (below1 w (.cells #[.int .i64 m.guest, .slice rA rn rc, .slice (some ⟨b, o, none⟩) sn sc, .slice fA fn fc, .slice pA pn pc] 26)).cell (p := ⟨b, o + k * 3, none⟩) hb |>.trans c0
      clear h hl hx c0 c1 c2 hs
      go_enter Try.func45, Try.ntmps45
      go_wp2
      go_ret
      exact ⟨ret_int R.out, below1 _ _⟩

set_option maxRecDepth 100000 in
set_option maxHeartbeats 400000 in
theorem rkind_any (v : IV) (m : Img) (x : Int) (w : World) (h : ImgR w w.heap.size v m) :
    Calls Try.prog 35 #[.agg #[.int .i64 m.guest, .slice v.rA v.rn v.rc, .slice v.sA v.sn v.sc, .slice v.fA v.fn v.fc, .slice v.pA v.pn v.pc], .int .i64 x] w fun e w' => e = .returned (.int .i64 (kindOf m.slots x)) ∧ Below w.heap.size w w' := by
  obtain ⟨rA, rn, rc, sA, sn, sc, fA, fn, fc, pA, pn, pc⟩ := v
  dsimp only
  have hl : m.slots.length = sn := h.slen
  have hsn : sn ≤ 4611686018427387903 := h.scap.1
  by_cases h1 : 1 ≤ x ∧ x ≤ (sn : Int) - 1
  · obtain ⟨h1, h2⟩ := h1
    have g1 : (decide (1 ≤ x) && decide (x ≤ (sn : Int) - 1)) = true := by simp; omega
    obtain ⟨k, rfl⟩ := Int.eq_ofNat_of_zero_le (a := x) (by omega)
    obtain ⟨b, o, s, tA, tn, tc, rfl, hb, hx, c0, c1, c2, hs⟩ := h.slots.at_ (k := k) (by dsimp only; omega)
    have R := Lib.hid (kindOf_at (by omega) hx)
    have c0' := (below1 w (.cells #[.int .i64 m.guest, .slice rA rn rc, .slice (some ⟨b, o, none⟩) sn sc, .slice fA fn fc, .slice pA pn pc] 26)).cell (p := ⟨b, o + k * 3, none⟩) hb |>.trans c0
    have h2' : (k : Int) < sn := by omega
    clear h hl hx c0 c1 c2 hs
    go_enter Try.func35, Try.ntmps35
    go_wp2_with (go_at_call 32; refine (within_any _ _ _ _).mono ?_; rintro e w' ⟨rfl, rfl⟩)
    go_ret
    exact ⟨ret_int R.out, below1 _ _⟩
  · have R := Lib.hid (kindOf_no (l := m.slots) (x := x) (by omega))
    have g1 : (decide (1 ≤ x) && decide (x ≤ (sn : Int) - 1)) = false := by rw [Bool.eq_false_iff]; simp; omega
    clear h hl h1
    go_enter Try.func35, Try.ntmps35
    go_wp2_with (go_at_call 32; refine (within_any _ _ _ _).mono ?_; rintro e w' ⟨rfl, rfl⟩)
    go_ret
    exact ⟨ret_int R.out, below1 _ _⟩

theorem told_take_succ (l : List Int) (n : Int) (k : Nat) (x : Int) (h : l[k]? = some x) : told (l.take (k + 1)) n = told (l.take k) n + (if x = n then 1 else 0) := by
  unfold told; rw [List.take_add_one, h, List.countP_append]; simp [List.countP_cons]
theorem told_le (l : List Int) (n : Int) : told l n ≤ l.length := List.countP_le_length
theorem told_all (l : List Int) (n : Int) (k : Nat) (h : l.length ≤ k) : told (l.take k) n = told l n := by rw [List.take_of_length_le h]

set_option maxHeartbeats 400000 in
theorem told_any (A : Option Addr) (n c B : Nat) (xs : List Int) (y : Int) (w : World) (h : Rd w B 1 A n (ints xs)) (hc : n ≤ 4611686018427387903) : Calls Try.prog 37 #[.slice A n c, .int .i64 y] w
    fun e w' => e = .returned (.int .i64 (told xs y : Nat)) ∧ w = w' := by
  go_enter Try.func37, Try.ntmps37
  go_wp2
  go_loop [5, 6] (fun t i => ∃ k : Nat, k ≤ n ∧ i = .int .i64 k ∧ t = .int .i64 (told (xs.take k) y : Nat)) (fun _ i => n - (intOf i).toNat)
  case atStart => exact ⟨0, Nat.zero_le _, rfl, rfl⟩
  case round =>
    obtain ⟨k, hk, rfl, rfl⟩ := hrel
    have hu := told_le (xs.take k) y
    rw [List.length_take] at hu
    have hu' : told (xs.take k) y ≤ n := by omega
    clear hu
    by_cases hlt : k < n
    · obtain ⟨b, o, x, rfl, hb, hx, hcell⟩ := h.at1 hlt
      have HU := Lib.hid (told_take_succ xs y k x hx)
      clear hx
      cases hp : (x == y)
      · go_wp2
        go_round
        case rel => exact ⟨k + 1, by omega, by go_num, by rw [HU.out, if_neg (by simpa using hp)]; go_num⟩
        case measure => simp [intOf]; omega
      · go_wp2
        go_round
        case rel => exact ⟨k + 1, by omega, by go_num, by rw [HU.out, if_pos (by simpa using hp)]; rfl⟩
        case measure => simp [intOf]; omega
    · go_wp2
      go_ret
      exact ⟨ret_int (by rw [told_all _ _ _ (by rw [h.len]; omega)]), rfl⟩
end Go.Proofs.Ytbhhcjnjddcocaa
-- Tree2: tree.Entry, the reference's look, reads.page, pageOf. Conditions: the image is read below the heap's size; the entry is there.
namespace Go.Proofs.Ytbhhcjnjddcocaa
open Go.RowKit Sl

/-- Entry n is there. -/
structure EntOk (l : List Slot) (root : List Int) (n : Nat) : Prop where
  lt : n / 4 < root.length
  or : int root (n / 4) = 0 ∨ (1 ≤ int root (n / 4) ∧ int root (n / 4) < l.length ∧ n % 4 < (tableAt l (int root (n / 4))).length)
theorem tableAt_at {l : List Slot} {k : Nat} {s : Slot} (hs : l[k]? = some s) : tableAt l k = s.table := by unfold tableAt; rw [Int.toNat_natCast, hs]; rfl
theorem int_at {l : List Int} {k : Nat} {x : Int} (h : l[k]? = some x) : int l k = x := by unfold int; rw [List.getD_eq_getElem?_getD, h]; rfl
theorem entryOf_no {l : List Slot} {root : List Int} {n : Nat} (h : int root (n / 4) = 0) : entryOf l root n = 0 := by unfold entryOf; rw [h]; rfl
theorem entryOf_yes {l : List Slot} {root : List Int} {n t : Nat} {s : Slot} (h : int root (n / 4) = t) (ht : 1 ≤ t) (hs : l[t]? = some s) : entryOf l root n = int s.table (n % 4) := by
  unfold entryOf; rw [h, if_pos (by omega), tableAt_at hs]

end Go.Proofs.Ytbhhcjnjddcocaa
-- Tree3: tree.root and the reference's rootFine. Conditions: the image is read below the heap's size, its slots are right, the guest is in its bounds.
namespace Go.Proofs.Ytbhhcjnjddcocaa
open Go.RowKit Sl

theorem rootfn_any (x : Int) (w : World) : Calls Try.prog 54 #[.int .i64 x] w fun e w' => e = .returned (.bool (x != 0)) ∧ w = w' := by
  go_enter Try.func54, Try.ntmps54
  go_wp2
  go_ret
  exact ⟨rfl, rfl⟩

theorem slotsErr_all {l : List Slot} (h : slotsErr l = 0) : l.all slotFine = true := by
  unfold slotsErr at h
  split at h
  · omega
  · split at h
    · assumption
    · omega
theorem slot_table {l : List Slot} {k : Nat} {s : Slot} (h : slotsErr l = 0) (hs : l[k]? = some s) (hk : s.kind = 2) : s.table.length = 4 := by
  have := List.all_eq_true.1 (slotsErr_all h) s (List.mem_of_getElem? hs)
  unfold slotFine at this
  rw [if_neg (by omega), if_neg (by omega), if_pos hk] at this
  simp only [Bool.and_eq_true, beq_iff_eq] at this
  have h2 := this.1.2
  unfold entriesErr at h2
  split at h2
  · assumption
  · omega
theorem upto4 (p : Nat → Bool) : upto p 4 = (p 0 && p 1 && p 2 && p 3) := by
  simp [upto, List.range, List.range.loop, Bool.and_assoc]
theorem four {t : List Int} (h : t.length = 4) : ∃ a b c d, t = [a, b, c, d] := by
  match t, h with
  | [a, b, c, d], _ => exact ⟨a, b, c, d, rfl⟩
/-- The entries behind the last page. -/
def behind (g : Int) (k : Nat) (t : List Int) : Bool := upto (fun i => decide (4 * (k : Int) + i < g) || int t i == 0) 4
theorem behind_all {g : Int} {k : Nat} {t : List Int} (h : 4 * (k : Int) + 4 ≤ g) : behind g k t = true := by
  unfold behind; rw [upto4]
  simp only [Bool.and_eq_true, Bool.or_eq_true, decide_eq_true_eq]
  omega
theorem behind_past {g : Int} {k p : Nat} {t : List Int} (ht : t.length = 4) (h : g - (k : Int) * 4 = p) (hp : p < 4) : behind g k t = !((t.drop p).any (fun x => x != 0)) := by
  obtain ⟨a, b, c, d, rfl⟩ := four ht
  unfold behind; rw [upto4]
  simp only [int, List.getD_cons_zero, List.getD_cons_succ]
  have e : p = 0 ∨ p = 1 ∨ p = 2 ∨ p = 3 := by omega
  have f : ∀ i : Nat, decide (4 * (k : Int) + i < g) = decide (i < p) := fun i => by rw [decide_eq_decide]; omega
  rw [f, f, f, f]
  rcases e with rfl | rfl | rfl | rfl <;> simp [Bool.and_assoc, bne, Bool.not_not] <;> decide +revert
theorem rootAt_no {l : List Slot} {g : Int} {root : List Int} {k : Nat} {t : Int} (h : root[k]? = some t) (h0 : (t == 0) = true) : rootAt l g root k = true := by
  unfold rootAt; rw [int_at h, h0]; rfl
theorem rootAt_kind {l : List Slot} {g : Int} {root : List Int} {k : Nat} {t : Int} (h : root[k]? = some t) (h0 : (t == 0) = false) (h2 : (kindOf l t != 2) = true) : rootAt l g root k = false := by
  unfold rootAt; rw [int_at h, h0, Bool.false_or]
  have : (kindOf l t == 2) = false := by simpa using h2
  rw [this]; rfl
theorem rootAt_yes {l : List Slot} {g : Int} {root : List Int} {k : Nat} {t : Int} (h : root[k]? = some t) (h0 : (t == 0) = false) (h2 : (kindOf l t != 2) = false) : rootAt l g root k = behind g k (tableAt l t) := by
  unfold rootAt; rw [int_at h, h0, Bool.false_or]
  have : (kindOf l t == 2) = true := by simpa using h2
  rw [this]; rfl
theorem kindOf_in {l : List Slot} {x : Int} (h : (kindOf l x != 2) = false) : ∃ k s, x = (k : Nat) ∧ 1 ≤ k ∧ l[k]? = some s ∧ s.kind = 2 := by
  have h : kindOf l x = 2 := by simpa using h
  unfold kindOf at h
  split at h
  · rename_i h1
    obtain ⟨k, rfl⟩ := Int.eq_ofNat_of_zero_le (a := x) (by omega)
    have hk : k < l.length := by omega
    refine ⟨k, l[k], rfl, by omega, List.getElem?_eq_getElem hk, ?_⟩
    rw [Int.toNat_natCast, List.getElem?_eq_getElem hk] at h
    exact h
  · omega
theorem rootFine_len {l : List Slot} {g : Int} {root : List Int} (h : (root.length : Int) ≠ wants g) : rootFine l g root = false := by unfold rootFine; rw [decide_eq_false h]; rfl
theorem rootFine_is {l : List Slot} {g : Int} {root : List Int} (h : (root.length : Int) = wants g) : rootFine l g root = upto (rootAt l g root) root.length := by unfold rootFine; rw [decide_eq_true h]; rfl

set_option maxRecDepth 100000 in
set_option maxHeartbeats 1000000 in
theorem root_any (v : IV) (m : Img) (g : Int) (A : Option Addr) (n c : Nat) (root : List Int) (w : World) (h : ImgR w w.heap.size v m) (hr : Rd w w.heap.size 1 A n (ints root)) (_hn : n ≤ 4611686018427387903) (hs : slotsErr m.slots = 0) (g0 : 0 ≤ g) (g16 : g ≤ 16) :
    Calls Try.prog 46 #[.agg #[.int .i64 m.guest, .slice v.rA v.rn v.rc, .slice v.sA v.sn v.sc, .slice v.fA v.fn v.fc, .slice v.pA v.pn v.pc], .int .i64 g, .slice A n c] w fun e w' => e = .returned (.bool (rootFine m.slots g root)) ∧ Below w.heap.size w w' := by
  have hrl := hr.len
  by_cases hw : (n : Int) = wants g
  · have R := Lib.hid (rootFine_is (l := m.slots) (g := g) (root := root) (by rw [hrl]; exact hw))
    have gw : ((n : Int) != wants g) = false := by simp [hw]
    have hwd : (n : Int) * 4 ≤ g + 3 := by rw [hw]; unfold wants; omega
    clear hw
    have KK := Lib.hid (fun (y : Int) W (hb : Below w.heap.size w W) => kind_any v m y W (h.next hb))
    have HI := Lib.hid h
    have HRR := Lib.hid hr
    have HL := Lib.hid hrl
    have HSE := Lib.hid hs
    have hsn : v.sn ≤ v.sc := h.sle
    have hsc : v.sc ≤ 9223372036854775807 := h.scap.2
    have HSL := Lib.hid h.slen
    generalize hwg : wants g = wg at gw
    have HW := Lib.hid hwg
    clear hwg h hrl hs hr
    obtain ⟨rA, rn, rc, sA, sn, sc, fA, fn, fc, pA, pn, pc⟩ := v
    dsimp only at *
    go_enter Try.func46, Try.ntmps46
    go_wp2_with (go_at_call 39; refine (wants_any g _ g0 (by omega)).mono ?_; rw [HW.out]; rintro e w' ⟨rfl, rfl⟩)
    have HB1 := below1 w (.cells #[.int .i64 m.guest, .slice rA rn rc, .slice sA sn sc, .slice fA fn fc, .slice pA pn pc] 26)
    have hcb := fun j => cell_of_row (w.alloc (.cells #[.int .i64 m.guest, .slice rA rn rc, .slice sA sn sc, .slice fA fn fc, .slice pA pn pc] 26)) w.heap.size j _ _ _ (heap_alloc_new w _)
    have HCB := Lib.hid hcb
    have hz1 : (w.alloc (.cells #[.int .i64 m.guest, .slice rA rn rc, .slice sA sn sc, .slice fA fn fc, .slice pA pn pc] 26)).heap.size = w.heap.size + 1 := by simp
    generalize hWB : (w.alloc (.cells #[.int .i64 m.guest, .slice rA rn rc, .slice sA sn sc, .slice fA fn fc, .slice pA pn pc] 26)) = wb at *
    clear hWB hcb
    go_loopw [17, 7, 8, 9] (fun i _ _ _ wr => ∃ k : Nat, k ≤ n ∧ i = .int .i64 k ∧ upto (rootAt m.slots g root) k = true ∧ Below wb.heap.size wb wr) (fun i _ _ _ _ => n - (intOf i).toNat)
    case atStart => exact ⟨0, Nat.zero_le _, rfl, rfl, Below.refl _ _⟩
    case round =>
      obtain ⟨k, hk, rfl, ha, hbw⟩ := hrel
      have HA := Lib.hid ha
      clear ha
      by_cases hlt : k < n
      · obtain ⟨b, o, x, rfl, hb, hx, hcell⟩ := HRR.out.at1 hlt
        have hcell' := (hbw.cell (p := ⟨b, o + k, none⟩) (by simp; omega)).trans ((HB1.cell (p := ⟨b, o + k, none⟩) hb).trans hcell)
        have HX := Lib.hid hx
        clear hx hcell
        have b0 := (hbw.cell (p := ⟨w.heap.size, 0, none⟩) (by simp; omega)).trans (HCB.out 0)
        have b1 := (hbw.cell (p := ⟨w.heap.size, 1, none⟩) (by simp; omega)).trans (HCB.out 1)
        have b2 := (hbw.cell (p := ⟨w.heap.size, 2, none⟩) (by simp; omega)).trans (HCB.out 2)
        have b3 := (hbw.cell (p := ⟨w.heap.size, 3, none⟩) (by simp; omega)).trans (HCB.out 3)
        have b4 := (hbw.cell (p := ⟨w.heap.size, 4, none⟩) (by simp; omega)).trans (HCB.out 4)
        simp only [List.getElem?_toArray, List.getElem?_cons_zero, List.getElem?_cons_succ] at b0 b1 b2 b3 b4
        have HBW := HB1.trans (hbw.mono (by omega))
        have hzr := hbw.size
        cases hp : (x == 0)
        · cases hk2 : (kindOf m.slots x != 2)
          · obtain ⟨t, s, rfl, ht1, hts, htk⟩ := kindOf_in hk2
            have ht4 := slot_table HSE.out hts htk
            have hyes := rootAt_yes (g := g) HX.out hp hk2
            rw [tableAt_at hts] at hyes
            have htl : t < sn := by have := (List.getElem?_eq_some_iff.1 hts).1; have := HSL.out; omega
            obtain ⟨b5, o5, s5, tA, tn, tc, rfl, hb5, hx5, d0, d1, d2, hsv⟩ := HI.out.slots.at_ (k := t) htl
            rw [hts] at hx5
            injection hx5 with hx5
            subst hx5
            have htn : tn = 4 := by have := hsv.table.len; omega
            subst htn
            have htl' : (t : Int) < sn := by omega
            by_cases hpast : g - (k : Int) * 4 < 4
            · obtain ⟨p, hpp⟩ := Int.eq_ofNat_of_zero_le (a := g - (k : Int) * 4) (by omega)
              have hp4 : p < 4 := by omega
              have hbe := behind_past ht4 hpp hp4
              have hsl := fun W => run_from (P := Try.prog) 22 3 1 Try.underlying22 (fun W => by kernel_rfl) tA 4 tc p (by omega) W
              rw [← hpp] at hsl
              have hT := hsv.table.cut (k := p) (by omega) hsv.len
              rw [Nat.mul_one] at hT
              have hdr : (ints s.table).drop p = ints (s.table.drop p) := by simp [ints]
              rw [hdr] at hT
              generalize cutA tA tc p 1 = tA' at hsl hT
              have hC := fun (W : World) (hw : Below w.heap.size w W) => containsInts 54 (fun y => y != 0) tA' (4 - p) (tc - p) w.heap.size (s.table.drop p) W (hT.below hw (Nat.le_refl _)) (by unfold maxLen; omega) (fun _ _ => by kernel_rfl) (fun y => rootfn_any y W)
              rw [hbe] at hyes
              generalize (s.table.drop p).any (fun y => y != 0) = an at hC hyes
              have HC := Lib.hid hC
              have HY := Lib.hid hyes
              have KK2 := Lib.hid (KK.out (t : Nat))
              clear hC hyes hbe hpp hT hdr hsv hts htk ht4 d0 d1
              cases an
              · go_wp2_with fail
                refine (KK2.out _ HBW).mono ?_
                rintro e w2 ⟨rfl, hb2⟩
                have HBW2 := below_next HBW hb2
                have d2' := (HBW2.cell (p := ⟨b5, o5 + t * 3 + 2, none⟩) hb5).trans d2
                have b2' := (hb2.cell (p := ⟨w.heap.size, 2, none⟩) (by simp; omega)).trans b2
                go_wp2_with fail
                refine (HC.out _ HBW2).mono ?_
                rintro e w3 ⟨rfl, rfl⟩
                go_wp2_with fail
                go_roundw
                case rel => exact ⟨k + 1, by omega, by go_num, by rw [upto_succ, HA.out, HY.out]; rfl, hbw.trans (hb2.mono (by omega))⟩
                case measure => simp [intOf]; omega
              · go_wp2_with fail
                refine (KK2.out _ HBW).mono ?_
                rintro e w2 ⟨rfl, hb2⟩
                have HBW2 := below_next HBW hb2
                have d2' := (HBW2.cell (p := ⟨b5, o5 + t * 3 + 2, none⟩) hb5).trans d2
                have b2' := (hb2.cell (p := ⟨w.heap.size, 2, none⟩) (by simp; omega)).trans b2
                go_wp2_with fail
                refine (HC.out _ HBW2).mono ?_
                rintro e w3 ⟨rfl, rfl⟩
                go_wp2_with fail
                go_ret
                exact ⟨ret_bool (by rw [R.out, HL.out]; exact upto_false hlt HY.out), HBW2⟩
            · have HY := Lib.hid (hyes.trans (behind_all (g := g) (k := k) (t := s.table) (by omega)))
              have hpast' : 4 ≤ g - (k : Int) * 4 := by omega
              have KK2 := Lib.hid (KK.out (t : Nat))
              clear hyes hsv hts htk ht4 d0 d1 d2 hpast
              go_wp2_with fail
              refine (KK2.out _ HBW).mono ?_
              rintro e w2 ⟨rfl, hb2⟩
              go_wp2_with fail
              go_roundw
              case rel => exact ⟨k + 1, by omega, by go_num, by rw [upto_succ, HA.out, HY.out]; rfl, hbw.trans (hb2.mono (by omega))⟩
              case measure => simp [intOf]; omega
          · have HY := Lib.hid (rootAt_kind (g := g) HX.out hp hk2)
            have KK2 := Lib.hid (KK.out x)
            go_wp2_with fail
            refine (KK2.out _ HBW).mono ?_
            rintro e w2 ⟨rfl, hb2⟩
            go_wp2_with fail
            go_ret
            exact ⟨ret_bool (by rw [R.out, HL.out]; exact upto_false hlt HY.out), below_next HBW hb2⟩
        · go_wp2_with fail
          go_roundw
          case rel => exact ⟨k + 1, by omega, by go_num, by rw [upto_succ, HA.out, rootAt_no HX.out hp]; rfl, hbw⟩
          case measure => simp [intOf]; omega
      · go_wp2_with fail
        go_ret
        exact ⟨ret_bool (by rw [R.out, HL.out, show n = k from by omega, HA.out]), HB1.trans (hbw.mono (by omega))⟩
  · have R := Lib.hid (rootFine_len (l := m.slots) (g := g) (root := root) (by rw [hrl]; exact hw))
    have gw : ((n : Int) != wants g) = true := by simp [hw]
    generalize hwg : wants g = wg at gw
    have HW := Lib.hid hwg
    clear hw hwg h hr hrl hs
    go_enter Try.func46, Try.ntmps46
    go_wp2_with (go_at_call 39; refine (wants_any g _ g0 (by omega)).mono ?_; rw [HW.out]; rintro e w' ⟨rfl, rfl⟩)
    go_ret
    exact ⟨ret_bool R.out, below1 _ _⟩
end Go.Proofs.Ytbhhcjnjddcocaa
-- Tree4: The reference's rootFine. Conditions: the image is read below the heap's size, its slots are right, the guest is in its bounds.
namespace Go.Proofs.Ytbhhcjnjddcocaa
open Go.RowKit Sl

theorem below_bx {w W : World} {o : Obj} (h : Below (w.heap.size + 1) (w.alloc o) W) : Below w.heap.size w W := (below1 w o).trans (h.mono (by omega))

set_option maxRecDepth 100000 in
set_option maxHeartbeats 1000000 in
theorem rroot_any (v : IV) (m : Img) (g : Int) (A : Option Addr) (n c : Nat) (root : List Int) (w : World) (h : ImgR w w.heap.size v m) (hr : Rd w w.heap.size 1 A n (ints root)) (_hn : n ≤ 4611686018427387903) (hs : slotsErr m.slots = 0) (g0 : 0 ≤ g) (g16 : g ≤ 16) :
    Calls Try.prog 36 #[.agg #[.int .i64 m.guest, .slice v.rA v.rn v.rc, .slice v.sA v.sn v.sc, .slice v.fA v.fn v.fc, .slice v.pA v.pn v.pc], .int .i64 g, .slice A n c] w fun e w' => e = .returned (.bool (rootFine m.slots g root)) ∧ Below w.heap.size w w' := by
  have hrl := hr.len
  by_cases hw : (n : Int) = wants g
  · have R := Lib.hid (rootFine_is (l := m.slots) (g := g) (root := root) (by rw [hrl]; exact hw))
    have gw : ((n : Int) != wants g) = false := by simp [hw]
    have hwd : (n : Int) * 4 ≤ g + 3 := by rw [hw]; unfold wants; omega
    clear hw
    have KK := Lib.hid (fun (y : Int) W (hb : Below w.heap.size w W) => rkind_any v m y W (h.next hb))
    have HI := Lib.hid h
    have HRR := Lib.hid hr
    have HL := Lib.hid hrl
    have HSE := Lib.hid hs
    have hsn : v.sn ≤ v.sc := h.sle
    have hsc : v.sc ≤ 9223372036854775807 := h.scap.2
    have HSL := Lib.hid h.slen
    generalize hwg : wants g = wg at gw
    have HW := Lib.hid hwg
    clear hwg h hrl hs hr
    obtain ⟨rA, rn, rc, sA, sn, sc, fA, fn, fc, pA, pn, pc⟩ := v
    dsimp only at *
    go_enter Try.func36, Try.ntmps36
    go_wp2_with (go_at_call 29; refine (rwants_any g _ g0 (by omega)).mono ?_; rw [HW.out]; rintro e w' ⟨rfl, rfl⟩)
    have HB1 := below1 w (.cells #[.int .i64 m.guest, .slice rA rn rc, .slice sA sn sc, .slice fA fn fc, .slice pA pn pc] 26)
    have hcb := fun j => cell_of_row (w.alloc (.cells #[.int .i64 m.guest, .slice rA rn rc, .slice sA sn sc, .slice fA fn fc, .slice pA pn pc] 26)) w.heap.size j _ _ _ (heap_alloc_new w _)
    have HCB := Lib.hid hcb
    have hz1 : (w.alloc (.cells #[.int .i64 m.guest, .slice rA rn rc, .slice sA sn sc, .slice fA fn fc, .slice pA pn pc] 26)).heap.size = w.heap.size + 1 := by simp
    generalize hWB : (w.alloc (.cells #[.int .i64 m.guest, .slice rA rn rc, .slice sA sn sc, .slice fA fn fc, .slice pA pn pc] 26)) = wb at *
    clear hWB hcb
    go_loopw [7, 8, 9] (fun i _ _ wr => ∃ k : Nat, k ≤ n ∧ i = .int .i64 k ∧ upto (rootAt m.slots g root) k = true ∧ Below wb.heap.size wb wr) (fun i _ _ _ => n - (intOf i).toNat)
    case atStart => exact ⟨0, Nat.zero_le _, rfl, rfl, Below.refl _ _⟩
    case round =>
      obtain ⟨k, hk, rfl, ha, hbw⟩ := hrel
      have HA := Lib.hid ha
      clear ha
      by_cases hlt : k < n
      · obtain ⟨b, o, x, rfl, hb, hx, hcell⟩ := HRR.out.at1 hlt
        have hcell' := (hbw.cell (p := ⟨b, o + k, none⟩) (by simp; omega)).trans ((HB1.cell (p := ⟨b, o + k, none⟩) hb).trans hcell)
        have HX := Lib.hid hx
        clear hx hcell
        have b0 := (hbw.cell (p := ⟨w.heap.size, 0, none⟩) (by simp; omega)).trans (HCB.out 0)
        have b1 := (hbw.cell (p := ⟨w.heap.size, 1, none⟩) (by simp; omega)).trans (HCB.out 1)
        have b2 := (hbw.cell (p := ⟨w.heap.size, 2, none⟩) (by simp; omega)).trans (HCB.out 2)
        have b3 := (hbw.cell (p := ⟨w.heap.size, 3, none⟩) (by simp; omega)).trans (HCB.out 3)
        have b4 := (hbw.cell (p := ⟨w.heap.size, 4, none⟩) (by simp; omega)).trans (HCB.out 4)
        simp only [List.getElem?_toArray, List.getElem?_cons_zero, List.getElem?_cons_succ] at b0 b1 b2 b3 b4
        have HBW := HB1.trans (hbw.mono (by omega))
        have hzr := hbw.size
        have k0 : (0 : Int) ≤ (k : Int) := by omega
        have kn : (k : Int) < (n : Int) := by omega
        cases hp : (x == 0)
        · cases hk2 : (kindOf m.slots x != 2)
          · obtain ⟨t, s, rfl, ht1, hts, htk⟩ := kindOf_in hk2
            have ht4 := slot_table HSE.out hts htk
            have hyes := rootAt_yes (g := g) HX.out hp hk2
            rw [tableAt_at hts] at hyes
            have htl : t < sn := by have := (List.getElem?_eq_some_iff.1 hts).1; have := HSL.out; omega
            obtain ⟨b5, o5, s5, tA, tn, tc, rfl, hb5, hx5, d0, d1, d2, hsv⟩ := HI.out.slots.at_ (k := t) htl
            rw [hts] at hx5
            injection hx5 with hx5
            subst hx5
            have htn : tn = 4 := by have := hsv.table.len; omega
            subst htn
            have htl' : (t : Int) < sn := by omega
            have ht0 : (0 : Int) ≤ t := by omega
            have HY := Lib.hid hyes
            have HSV := Lib.hid hsv
            have KK2 := Lib.hid (KK.out (t : Nat))
            have tcle : 4 ≤ tc := hsv.len
            have tccap : tc ≤ 9223372036854775807 := hsv.cap.2
            clear hyes hsv hts htk ht4 d0 d1
            go_wp2_with fail
            go_still_tail 5, (by kernel_rfl)
            have HBD : Below w.heap.size w wr.drew := below_drewN HBW 1
            have hzd : wr.drew.heap.size = wr.heap.size := rfl
            generalize hwd : wr.drew = wd at HBD hzd
            have HWD := Lib.hid hwd
            go_wp2_with fail
            refine (KK2.out _ ?_).mono ?_
            · first | exact HBD | exact below_drewN HBW 1
            rintro e w2 ⟨rfl, hb2⟩
            have HB2 := below_next HBD hb2
            have hz2 := HB2.size
            have b2' := (hb2.cell (p := ⟨w.heap.size, 2, none⟩) (by simp; omega)).trans ((show wd.cell? _ = wr.cell? _ from by rw [← HWD.out]; rfl).trans b2)
            have hcell2 := (hb2.cell (p := ⟨b, o + k, none⟩) (by simp; omega)).trans ((show wd.cell? _ = wr.cell? _ from by rw [← HWD.out]; rfl).trans hcell')
            have d2' := (HB2.cell (p := ⟨b5, o5 + t * 3 + 2, none⟩) hb5).trans d2
            have HBr := Lib.hid ((show Below wb.heap.size wb wd from by rw [← HWD.out]; exact below_drewN hbw 1).trans (hb2.mono (by omega)))
            clear b0 b1 b2 b3 b4 hcell' d2 HWD hbw
            go_wp2_with fail
            go_quiet (fail)
            rename_i nq
            have HB3 : Below w.heap.size w (w2.drewN nq) := below_drewN HB2 _
            have HBr3 : Below wb.heap.size wb (w2.drewN nq) := below_drewN HBr.out _
            generalize w2.drewN nq = w3 at HB3 HBr3
            have HSV3 := Lib.hid (HSV.out.below HB3 (Nat.le_refl _))
            clear b2' hcell2 d2' HBr HB2 hb2 hz2
            go_wp2_with fail
            go_loop [9] (fun i => ∃ j : Nat, j ≤ 4 ∧ i = .int .i64 j ∧ upto (fun i => decide (4 * (k : Int) + i < g) || int s.table i == 0) j = true) (fun i => 4 - (intOf i).toNat)
            case atStart => exact ⟨0, Nat.zero_le _, rfl, rfl⟩
            case round =>
              obtain ⟨j, hj, rfl, hu⟩ := hrel
              have HU := Lib.hid hu
              clear hu
              by_cases hlt4 : j < 4
              · obtain ⟨b6, o6, y, rfl, hb6, hx6, hcell6⟩ := HSV3.out.table.at1 hlt4
                have HX6 := Lib.hid (int_at hx6)
                clear hx6
                by_cases hpg : g ≤ (k : Int) * 4 + j
                · cases hy0 : (y != 0)
                  · go_wp2_with fail
                    go_round
                    case rel => exact ⟨j + 1, by omega, by go_num, by rw [upto_succ, HU.out, HX6.out]; simp at hy0; simp [hy0]⟩
                    case measure => simp [intOf]; omega
                  · go_wp2_with fail
                    go_ret
                    refine ⟨ret_bool ?_, HB3⟩
                    rw [R.out, HL.out]
                    refine upto_false hlt (HY.out.trans ?_)
                    unfold behind
                    refine upto_false hlt4 ?_
                    rw [HX6.out, decide_eq_false (by omega)]
                    simp at hy0; simp [hy0]
                · have hpg' : (k : Int) * 4 + j < g := by omega
                  go_wp2_with fail
                  go_round
                  case rel => exact ⟨j + 1, by omega, by go_num, by rw [upto_succ, HU.out, decide_eq_true (by omega)]; rfl⟩
                  case measure => simp [intOf]; omega
              · have hj4 : j = 4 := by omega
                have HBE : Hid (behind g k s.table = true) := by
                  have := HU.out
                  rw [hj4] at this
                  exact Lib.hid this
                clear hj4
                go_wp2_with fail
                go_roundw
                case rel => exact ⟨k + 1, by omega, by go_num, by rw [upto_succ, HA.out, HY.out, HBE.out]; rfl, HBr3⟩
                case measure => simp [intOf]; omega
          · have HY := Lib.hid (rootAt_kind (g := g) HX.out hp hk2)
            have KK2 := Lib.hid (KK.out x)
            go_wp2_with fail
            go_still_tail 5, (by kernel_rfl)
            have HBD : Below w.heap.size w wr.drew := below_drewN HBW 1
            have hzd : wr.drew.heap.size = wr.heap.size := rfl
            generalize hwd : wr.drew = wd at HBD hzd
            have HWD := Lib.hid hwd
            go_wp2_with fail
            refine (KK2.out _ ?_).mono ?_
            · first | exact HBD | exact below_drewN HBW 1
            rintro e w2 ⟨rfl, hb2⟩
            go_wp2_with fail
            go_ret
            exact ⟨ret_bool (by rw [R.out, HL.out]; exact upto_false hlt HY.out), below_next HBD hb2⟩
        · go_wp2_with fail
          go_roundw
          case rel => exact ⟨k + 1, by omega, by go_num, by rw [upto_succ, HA.out, rootAt_no HX.out hp]; rfl, hbw⟩
          case measure => simp [intOf]; omega
      · go_wp2_with fail
        go_ret
        exact ⟨ret_bool (by rw [R.out, HL.out, show n = k from by omega, HA.out]), HB1.trans (hbw.mono (by omega))⟩
  · have R := Lib.hid (rootFine_len (l := m.slots) (g := g) (root := root) (by rw [hrl]; exact hw))
    have gw : ((n : Int) != wants g) = true := by simp [hw]
    generalize hwg : wants g = wg at gw
    have HW := Lib.hid hwg
    clear hw hwg h hr hrl hs
    go_enter Try.func36, Try.ntmps36
    go_wp2_with (go_at_call 29; refine (rwants_any g _ g0 (by omega)).mono ?_; rw [HW.out]; rintro e w' ⟨rfl, rfl⟩)
    go_ret
    exact ⟨ret_bool R.out, below1 _ _⟩
end Go.Proofs.Ytbhhcjnjddcocaa
