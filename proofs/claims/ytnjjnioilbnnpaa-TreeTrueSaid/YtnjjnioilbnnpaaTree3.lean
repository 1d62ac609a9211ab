/- tree.root and the reference's rootFine. Conditions: the image is read below the heap's size, its slots are right, the guest is in its bounds. -/
import Derived.Test.YtnjjnioilbnnpaaTree2
import Derived.Test.YtnjjnioilbnnpaaSlots4
namespace Go.Proofs.Ytnjjnioilbnnpaa
open Go.RowKit Sl

theorem rootfn_any (x : Int) (w : World) : Calls Try.prog 73 #[.int .i64 x] w fun e w' => e = .returned (.bool (x != 0)) ∧ w = w' := by
  go_enter Try.func73, Try.ntmps73
  go_wp2
  go_ret
  exact ⟨rfl, rfl⟩

theorem slotsErr_all {l : List Slot} (h : slotsErr l = 0) : l.all slotFine = true := by
  unfold slotsErr at h
  split at h
  · omega
  · split at h
    · assumption
    · omega
theorem slot_table {l : List Slot} {k : Nat} {s : Slot} (h : slotsErr l = 0) (hs : l[k]? = some s) (hk : s.kind = 2) : s.table.length = 4 := by
  have := List.all_eq_true.1 (slotsErr_all h) s (List.mem_of_getElem? hs)
  unfold slotFine at this
  rw [if_neg (by omega), if_neg (by omega), if_pos hk] at this
  simp only [Bool.and_eq_true, beq_iff_eq] at this
  have h2 := this.1.2
  unfold entriesErr at h2
  split at h2
  · assumption
  · omega
theorem upto4 (p : Nat → Bool) : upto p 4 = (p 0 && p 1 && p 2 && p 3) := by
  simp [upto, List.range, List.range.loop, Bool.and_assoc]
theorem four {t : List Int} (h : t.length = 4) : ∃ a b c d, t = [a, b, c, d] := by
  match t, h with
  | [a, b, c, d], _ => exact ⟨a, b, c, d, rfl⟩
/-- The entries behind the last page. -/
def behind (g : Int) (k : Nat) (t : List Int) : Bool := upto (fun i => decide (4 * (k : Int) + i < g) || int t i == 0) 4
theorem behind_all {g : Int} {k : Nat} {t : List Int} (h : 4 * (k : Int) + 4 ≤ g) : behind g k t = true := by
  unfold behind; rw [upto4]
  simp only [Bool.and_eq_true, Bool.or_eq_true, decide_eq_true_eq]
  omega
theorem behind_past {g : Int} {k p : Nat} {t : List Int} (ht : t.length = 4) (h : g - (k : Int) * 4 = p) (hp : p < 4) : behind g k t = !((t.drop p).any (fun x => x != 0)) := by
  obtain ⟨a, b, c, d, rfl⟩ := four ht
  unfold behind; rw [upto4]
  simp only [int, List.getD_cons_zero, List.getD_cons_succ]
  have e : p = 0 ∨ p = 1 ∨ p = 2 ∨ p = 3 := by omega
  have f : ∀ i : Nat, decide (4 * (k : Int) + i < g) = decide (i < p) := fun i => by rw [decide_eq_decide]; omega
  rw [f, f, f, f]
  rcases e with rfl | rfl | rfl | rfl <;> simp [Bool.and_assoc, bne, Bool.not_not] <;> decide +revert
theorem rootAt_no {l : List Slot} {g : Int} {root : List Int} {k : Nat} {t : Int} (h : root[k]? = some t) (h0 : (t == 0) = true) : rootAt l g root k = true := by
  unfold rootAt; rw [int_at h, h0]; rfl
theorem rootAt_kind {l : List Slot} {g : Int} {root : List Int} {k : Nat} {t : Int} (h : root[k]? = some t) (h0 : (t == 0) = false) (h2 : (kindOf l t != 2) = true) : rootAt l g root k = false := by
  unfold rootAt; rw [int_at h, h0, Bool.false_or]
  have : (kindOf l t == 2) = false := by simpa using h2
  rw [this]; rfl
theorem rootAt_yes {l : List Slot} {g : Int} {root : List Int} {k : Nat} {t : Int} (h : root[k]? = some t) (h0 : (t == 0) = false) (h2 : (kindOf l t != 2) = false) : rootAt l g root k = behind g k (tableAt l t) := by
  unfold rootAt; rw [int_at h, h0, Bool.false_or]
  have : (kindOf l t == 2) = true := by simpa using h2
  rw [this]; rfl
theorem kindOf_in {l : List Slot} {x : Int} (h : (kindOf l x != 2) = false) : ∃ k s, x = (k : Nat) ∧ 1 ≤ k ∧ l[k]? = some s ∧ s.kind = 2 := by
  have h : kindOf l x = 2 := by simpa using h
  unfold kindOf at h
  split at h
  · rename_i h1
    obtain ⟨k, rfl⟩ := Int.eq_ofNat_of_zero_le (a := x) (by omega)
    have hk : k < l.length := by omega
    refine ⟨k, l[k], rfl, by omega, List.getElem?_eq_getElem hk, ?_⟩
    rw [Int.toNat_natCast, List.getElem?_eq_getElem hk] at h
    exact h
  · omega
theorem rootFine_len {l : List Slot} {g : Int} {root : List Int} (h : (root.length : Int) ≠ wants g) : rootFine l g root = false := by unfold rootFine; rw [decide_eq_false h]; rfl
theorem rootFine_is {l : List Slot} {g : Int} {root : List Int} (h : (root.length : Int) = wants g) : rootFine l g root = upto (rootAt l g root) root.length := by unfold rootFine; rw [decide_eq_true h]; rfl

set_option maxRecDepth 100000 in
set_option maxHeartbeats 1000000 in
theorem root_any (v : IV) (m : Img) (g : Int) (A : Option Addr) (n c : Nat) (root : List Int) (w : World) (h : ImgR w w.heap.size v m) (hr : Rd w w.heap.size 1 A n (ints root)) (_hn : n ≤ 4611686018427387903) (hs : slotsErr m.slots = 0) (g0 : 0 ≤ g) (g16 : g ≤ 16) :
    Calls Try.prog 46 #[.agg #[.int .i64 m.guest, .slice v.rA v.rn v.rc, .slice v.sA v.sn v.sc, .slice v.fA v.fn v.fc, .slice v.pA v.pn v.pc], .int .i64 g, .slice A n c] w fun e w' => e = .returned (.bool (rootFine m.slots g root)) ∧ Below w.heap.size w w' := by
  have hrl := hr.len
  by_cases hw : (n : Int) = wants g
  · have R := Lib.hid (rootFine_is (l := m.slots) (g := g) (root := root) (by rw [hrl]; exact hw))
    have gw : ((n : Int) != wants g) = false := by simp [hw]
    have hwd : (n : Int) * 4 ≤ g + 3 := by rw [hw]; unfold wants; omega
    clear hw
    have KK := Lib.hid (fun (y : Int) W (hb : Below w.heap.size w W) => kind_any v m y W (h.next hb))
    have HI := Lib.hid h
    have HRR := Lib.hid hr
    have HL := Lib.hid hrl
    have HSE := Lib.hid hs
    have hsn : v.sn ≤ v.sc := h.sle
    have hsc : v.sc ≤ 4611686018427387903 := h.scap
    have HSL := Lib.hid h.slen
    generalize hwg : wants g = wg at gw
    have HW := Lib.hid hwg
    clear hwg h hrl hs hr
    obtain ⟨rA, rn, rc, sA, sn, sc, fA, fn, fc, pA, pn, pc⟩ := v
    dsimp only at *
    go_enter Try.func46, Try.ntmps46
    go_wp2_with (go_at_call 72; refine (wants_any g _ g0 (by omega)).mono ?_; rw [HW.out]; rintro e w' ⟨rfl, rfl⟩)
    have HB1 := below1 w (.cells #[.int .i64 m.guest, .slice rA rn rc, .slice sA sn sc, .slice fA fn fc, .slice pA pn pc] 26)
    have hcb := fun j => cell_of_row (w.alloc (.cells #[.int .i64 m.guest, .slice rA rn rc, .slice sA sn sc, .slice fA fn fc, .slice pA pn pc] 26)) w.heap.size j _ _ _ (heap_alloc_new w _)
    have HCB := Lib.hid hcb
    have hz1 : (w.alloc (.cells #[.int .i64 m.guest, .slice rA rn rc, .slice sA sn sc, .slice fA fn fc, .slice pA pn pc] 26)).heap.size = w.heap.size + 1 := by simp
    generalize hWB : (w.alloc (.cells #[.int .i64 m.guest, .slice rA rn rc, .slice sA sn sc, .slice fA fn fc, .slice pA pn pc] 26)) = wb at *
    clear hWB hcb
    go_loopw [17, 7, 8, 9] (fun i _ _ _ wr => ∃ k : Nat, k ≤ n ∧ i = .int .i64 k ∧ upto (rootAt m.slots g root) k = true ∧ Below wb.heap.size wb wr) (fun i _ _ _ _ => n - (intOf i).toNat)
    case atStart => exact ⟨0, Nat.zero_le _, rfl, rfl, Below.refl _ _⟩
    case round =>
      obtain ⟨k, hk, rfl, ha, hbw⟩ := hrel
      have HA := Lib.hid ha
      clear ha
      by_cases hlt : k < n
      · obtain ⟨b, o, x, rfl, hb, hx, hcell⟩ := HRR.out.at1 hlt
        have hcell' := (hbw.cell (p := ⟨b, o + k, none⟩) (by simp; omega)).trans ((HB1.cell (p := ⟨b, o + k, none⟩) hb).trans hcell)
        have HX := Lib.hid hx
        clear hx hcell
        have b0 := (hbw.cell (p := ⟨w.heap.size, 0, none⟩) (by simp; omega)).trans (HCB.out 0)
        have b1 := (hbw.cell (p := ⟨w.heap.size, 1, none⟩) (by simp; omega)).trans (HCB.out 1)
        have b2 := (hbw.cell (p := ⟨w.heap.size, 2, none⟩) (by simp; omega)).trans (HCB.out 2)
        have b3 := (hbw.cell (p := ⟨w.heap.size, 3, none⟩) (by simp; omega)).trans (HCB.out 3)
        have b4 := (hbw.cell (p := ⟨w.heap.size, 4, none⟩) (by simp; omega)).trans (HCB.out 4)
        simp only [List.getElem?_toArray, List.getElem?_cons_zero, List.getElem?_cons_succ] at b0 b1 b2 b3 b4
        have HBW := HB1.trans (hbw.mono (by omega))
        have hzr := hbw.size
        cases hp : (x == 0)
        · cases hk2 : (kindOf m.slots x != 2)
          · obtain ⟨t, s, rfl, ht1, hts, htk⟩ := kindOf_in hk2
            have ht4 := slot_table HSE.out hts htk
            have hyes := rootAt_yes (g := g) HX.out hp hk2
            rw [tableAt_at hts] at hyes
            have htl : t < sn := by have := (List.getElem?_eq_some_iff.1 hts).1; have := HSL.out; omega
            obtain ⟨b5, o5, s5, tA, tn, tc, rfl, hb5, hx5, d0, d1, d2, hsv⟩ := HI.out.slots.at_ (k := t) htl
            rw [hts] at hx5
            injection hx5 with hx5
            subst hx5
            have htn : tn = 4 := by have := hsv.table.len; omega
            subst htn
            have htl' : (t : Int) < sn := by omega
            by_cases hpast : g - (k : Int) * 4 < 4
            · obtain ⟨p, hpp⟩ := Int.eq_ofNat_of_zero_le (a := g - (k : Int) * 4) (by omega)
              have hp4 : p < 4 := by omega
              have hbe := behind_past ht4 hpp hp4
              have hsl := fun W => run_from (P := Try.prog) 22 3 1 Try.underlying22 (fun W => by kernel_rfl) tA 4 tc p (by omega) W
              rw [← hpp] at hsl
              have hT := hsv.table.cut (k := p) (by omega) hsv.len
              rw [Nat.mul_one] at hT
              have hdr : (ints s.table).drop p = ints (s.table.drop p) := by simp [ints]
              rw [hdr] at hT
              generalize cutA tA tc p 1 = tA' at hsl hT
              have hC := fun (W : World) (hw : Below w.heap.size w W) => containsInts 73 (fun y => y != 0) tA' (4 - p) (tc - p) w.heap.size (s.table.drop p) W (hT.below hw (Nat.le_refl _)) (by unfold maxLen; omega) (fun _ _ => by kernel_rfl) (fun y => rootfn_any y W)
              rw [hbe] at hyes
              generalize (s.table.drop p).any (fun y => y != 0) = an at hC hyes
              have HC := Lib.hid hC
              have HY := Lib.hid hyes
              have KK2 := Lib.hid (KK.out (t : Nat))
              clear hC hyes hbe hpp hT hdr hsv hts htk ht4 d0 d1
              cases an
              · go_wp2_with fail
                refine (KK2.out _ HBW).mono ?_
                rintro e w2 ⟨rfl, hb2⟩
                have HBW2 := below_next HBW hb2
                have d2' := (HBW2.cell (p := ⟨b5, o5 + t * 3 + 2, none⟩) hb5).trans d2
                have b2' := (hb2.cell (p := ⟨w.heap.size, 2, none⟩) (by simp; omega)).trans b2
                go_wp2_with fail
                refine (HC.out _ HBW2).mono ?_
                rintro e w3 ⟨rfl, rfl⟩
                go_wp2_with fail
                go_roundw
                case rel => exact ⟨k + 1, by omega, by go_num, by rw [upto_succ, HA.out, HY.out]; rfl, hbw.trans (hb2.mono (by omega))⟩
                case measure => simp [intOf]; omega
              · go_wp2_with fail
                refine (KK2.out _ HBW).mono ?_
                rintro e w2 ⟨rfl, hb2⟩
                have HBW2 := below_next HBW hb2
                have d2' := (HBW2.cell (p := ⟨b5, o5 + t * 3 + 2, none⟩) hb5).trans d2
                have b2' := (hb2.cell (p := ⟨w.heap.size, 2, none⟩) (by simp; omega)).trans b2
                go_wp2_with fail
                refine (HC.out _ HBW2).mono ?_
                rintro e w3 ⟨rfl, rfl⟩
                go_wp2_with fail
                go_ret
                exact ⟨ret_bool (by rw [R.out, HL.out]; exact upto_false hlt HY.out), HBW2⟩
            · have HY := Lib.hid (hyes.trans (behind_all (g := g) (k := k) (t := s.table) (by omega)))
              have hpast' : 4 ≤ g - (k : Int) * 4 := by omega
              have KK2 := Lib.hid (KK.out (t : Nat))
              clear hyes hsv hts htk ht4 d0 d1 d2 hpast
              go_wp2_with fail
              refine (KK2.out _ HBW).mono ?_
              rintro e w2 ⟨rfl, hb2⟩
              go_wp2_with fail
              go_roundw
              case rel => exact ⟨k + 1, by omega, by go_num, by rw [upto_succ, HA.out, HY.out]; rfl, hbw.trans (hb2.mono (by omega))⟩
              case measure => simp [intOf]; omega
          · have HY := Lib.hid (rootAt_kind (g := g) HX.out hp hk2)
            have KK2 := Lib.hid (KK.out x)
            go_wp2_with fail
            refine (KK2.out _ HBW).mono ?_
            rintro e w2 ⟨rfl, hb2⟩
            go_wp2_with fail
            go_ret
            exact ⟨ret_bool (by rw [R.out, HL.out]; exact upto_false hlt HY.out), below_next HBW hb2⟩
        · go_wp2_with fail
          go_roundw
          case rel => exact ⟨k + 1, by omega, by go_num, by rw [upto_succ, HA.out, rootAt_no HX.out hp]; rfl, hbw⟩
          case measure => simp [intOf]; omega
      · go_wp2_with fail
        go_ret
        exact ⟨ret_bool (by rw [R.out, HL.out, show n = k from by omega, HA.out]), HB1.trans (hbw.mono (by omega))⟩
  · have R := Lib.hid (rootFine_len (l := m.slots) (g := g) (root := root) (by rw [hrl]; exact hw))
    have gw : ((n : Int) != wants g) = true := by simp [hw]
    generalize hwg : wants g = wg at gw
    have HW := Lib.hid hwg
    clear hw hwg h hr hrl hs
    go_enter Try.func46, Try.ntmps46
    go_wp2_with (go_at_call 72; refine (wants_any g _ g0 (by omega)).mono ?_; rw [HW.out]; rintro e w' ⟨rfl, rfl⟩)
    go_ret
    exact ⟨ret_bool R.out, below1 _ _⟩
end Go.Proofs.Ytnjjnioilbnnpaa
