/- The reference's rootFine. Conditions: the image is read below the heap's size, its slots are right, the guest is in its bounds. -/
import Derived.Test.YtnjjnioilbnnpaaTree3
import Derived.StillTailTactics
namespace Go.Proofs.Ytnjjnioilbnnpaa
open Go.RowKit Sl

theorem below_bx {w W : World} {o : Obj} (h : Below (w.heap.size + 1) (w.alloc o) W) : Below w.heap.size w W := (below1 w o).trans (h.mono (by omega))

set_option maxRecDepth 100000 in
set_option maxHeartbeats 1000000 in
theorem rroot_any (v : IV) (m : Img) (g : Int) (A : Option Addr) (n c : Nat) (root : List Int) (w : World) (h : ImgR w w.heap.size v m) (hr : Rd w w.heap.size 1 A n (ints root)) (_hn : n ≤ 4611686018427387903) (hs : slotsErr m.slots = 0) (g0 : 0 ≤ g) (g16 : g ≤ 16) :
    Calls Try.prog 51 #[.agg #[.int .i64 m.guest, .slice v.rA v.rn v.rc, .slice v.sA v.sn v.sc, .slice v.fA v.fn v.fc, .slice v.pA v.pn v.pc], .int .i64 g, .slice A n c] w fun e w' => e = .returned (.bool (rootFine m.slots g root)) ∧ Below w.heap.size w w' := by
  have hrl := hr.len
  by_cases hw : (n : Int) = wants g
  · have R := Lib.hid (rootFine_is (l := m.slots) (g := g) (root := root) (by rw [hrl]; exact hw))
    have gw : ((n : Int) != wants g) = false := by simp [hw]
    have hwd : (n : Int) * 4 ≤ g + 3 := by rw [hw]; unfold wants; omega
    clear hw
    have KK := Lib.hid (fun (y : Int) W (hb : Below w.heap.size w W) => rkind_any v m y W (h.next hb))
    have HI := Lib.hid h
    have HRR := Lib.hid hr
    have HL := Lib.hid hrl
    have HSE := Lib.hid hs
    have hsn : v.sn ≤ v.sc := h.sle
    have hsc : v.sc ≤ 4611686018427387903 := h.scap
    have HSL := Lib.hid h.slen
    generalize hwg : wants g = wg at gw
    have HW := Lib.hid hwg
    clear hwg h hrl hs hr
    obtain ⟨rA, rn, rc, sA, sn, sc, fA, fn, fc, pA, pn, pc⟩ := v
    dsimp only at *
    go_enter Try.func51, Try.ntmps51
    go_wp2_with (go_at_call 75; refine (rwants_any g _ g0 (by omega)).mono ?_; rw [HW.out]; rintro e w' ⟨rfl, rfl⟩)
    have HB1 := below1 w (.cells #[.int .i64 m.guest, .slice rA rn rc, .slice sA sn sc, .slice fA fn fc, .slice pA pn pc] 26)
    have hcb := fun j => cell_of_row (w.alloc (.cells #[.int .i64 m.guest, .slice rA rn rc, .slice sA sn sc, .slice fA fn fc, .slice pA pn pc] 26)) w.heap.size j _ _ _ (heap_alloc_new w _)
    have HCB := Lib.hid hcb
    have hz1 : (w.alloc (.cells #[.int .i64 m.guest, .slice rA rn rc, .slice sA sn sc, .slice fA fn fc, .slice pA pn pc] 26)).heap.size = w.heap.size + 1 := by simp
    generalize hWB : (w.alloc (.cells #[.int .i64 m.guest, .slice rA rn rc, .slice sA sn sc, .slice fA fn fc, .slice pA pn pc] 26)) = wb at *
    clear hWB hcb
    go_loopw [7, 8, 9] (fun i _ _ wr => ∃ k : Nat, k ≤ n ∧ i = .int .i64 k ∧ upto (rootAt m.slots g root) k = true ∧ Below wb.heap.size wb wr) (fun i _ _ _ => n - (intOf i).toNat)
    case atStart => exact ⟨0, Nat.zero_le _, rfl, rfl, Below.refl _ _⟩
    case round =>
      obtain ⟨k, hk, rfl, ha, hbw⟩ := hrel
      have HA := Lib.hid ha
      clear ha
      by_cases hlt : k < n
      · obtain ⟨b, o, x, rfl, hb, hx, hcell⟩ := HRR.out.at1 hlt
        have hcell' := (hbw.cell (p := ⟨b, o + k, none⟩) (by simp; omega)).trans ((HB1.cell (p := ⟨b, o + k, none⟩) hb).trans hcell)
        have HX := Lib.hid hx
        clear hx hcell
        have b0 := (hbw.cell (p := ⟨w.heap.size, 0, none⟩) (by simp; omega)).trans (HCB.out 0)
        have b1 := (hbw.cell (p := ⟨w.heap.size, 1, none⟩) (by simp; omega)).trans (HCB.out 1)
        have b2 := (hbw.cell (p := ⟨w.heap.size, 2, none⟩) (by simp; omega)).trans (HCB.out 2)
        have b3 := (hbw.cell (p := ⟨w.heap.size, 3, none⟩) (by simp; omega)).trans (HCB.out 3)
        have b4 := (hbw.cell (p := ⟨w.heap.size, 4, none⟩) (by simp; omega)).trans (HCB.out 4)
        simp only [List.getElem?_toArray, List.getElem?_cons_zero, List.getElem?_cons_succ] at b0 b1 b2 b3 b4
        have HBW := HB1.trans (hbw.mono (by omega))
        have hzr := hbw.size
        have k0 : (0 : Int) ≤ (k : Int) := by omega
        have kn : (k : Int) < (n : Int) := by omega
        cases hp : (x == 0)
        · cases hk2 : (kindOf m.slots x != 2)
          · obtain ⟨t, s, rfl, ht1, hts, htk⟩ := kindOf_in hk2
            have ht4 := slot_table HSE.out hts htk
            have hyes := rootAt_yes (g := g) HX.out hp hk2
            rw [tableAt_at hts] at hyes
            have htl : t < sn := by have := (List.getElem?_eq_some_iff.1 hts).1; have := HSL.out; omega
            obtain ⟨b5, o5, s5, tA, tn, tc, rfl, hb5, hx5, d0, d1, d2, hsv⟩ := HI.out.slots.at_ (k := t) htl
            rw [hts] at hx5
            injection hx5 with hx5
            subst hx5
            have htn : tn = 4 := by have := hsv.table.len; omega
            subst htn
            have htl' : (t : Int) < sn := by omega
            have ht0 : (0 : Int) ≤ t := by omega
            have HY := Lib.hid hyes
            have HSV := Lib.hid hsv
            have KK2 := Lib.hid (KK.out (t : Nat))
            have tcle : 4 ≤ tc := hsv.len
            have tccap : tc ≤ 4611686018427387903 := hsv.cap
            clear hyes hsv hts htk ht4 d0 d1
            go_wp2_with fail
            go_still_tail 5, (by kernel_rfl)
            have HBD : Below w.heap.size w wr.drew := below_drewN HBW 1
            have hzd : wr.drew.heap.size = wr.heap.size := rfl
            generalize hwd : wr.drew = wd at HBD hzd
            have HWD := Lib.hid hwd
            go_wp2_with fail
            refine (KK2.out _ ?_).mono ?_
            · first | exact HBD | exact below_drewN HBW 1
            rintro e w2 ⟨rfl, hb2⟩
            have HB2 := below_next HBD hb2
            have hz2 := HB2.size
            have b2' := (hb2.cell (p := ⟨w.heap.size, 2, none⟩) (by simp; omega)).trans ((show wd.cell? _ = wr.cell? _ from by rw [← HWD.out]; rfl).trans b2)
            have hcell2 := (hb2.cell (p := ⟨b, o + k, none⟩) (by simp; omega)).trans ((show wd.cell? _ = wr.cell? _ from by rw [← HWD.out]; rfl).trans hcell')
            have d2' := (HB2.cell (p := ⟨b5, o5 + t * 3 + 2, none⟩) hb5).trans d2
            have HBr := Lib.hid ((show Below wb.heap.size wb wd from by rw [← HWD.out]; exact below_drewN hbw 1).trans (hb2.mono (by omega)))
            clear b0 b1 b2 b3 b4 hcell' d2 HWD hbw
            go_wp2_with fail
            go_quiet (fail)
            rename_i nq
            have HB3 : Below w.heap.size w (w2.drewN nq) := below_drewN HB2 _
            have HBr3 : Below wb.heap.size wb (w2.drewN nq) := below_drewN HBr.out _
            generalize w2.drewN nq = w3 at HB3 HBr3
            have HSV3 := Lib.hid (HSV.out.below HB3 (Nat.le_refl _))
            clear b2' hcell2 d2' HBr HB2 hb2 hz2
            go_wp2_with fail
            go_loop [9] (fun i => ∃ j : Nat, j ≤ 4 ∧ i = .int .i64 j ∧ upto (fun i => decide (4 * (k : Int) + i < g) || int s.table i == 0) j = true) (fun i => 4 - (intOf i).toNat)
            case atStart => exact ⟨0, Nat.zero_le _, rfl, rfl⟩
            case round =>
              obtain ⟨j, hj, rfl, hu⟩ := hrel
              have HU := Lib.hid hu
              clear hu
              by_cases hlt4 : j < 4
              · obtain ⟨b6, o6, y, rfl, hb6, hx6, hcell6⟩ := HSV3.out.table.at1 hlt4
                have HX6 := Lib.hid (int_at hx6)
                clear hx6
                by_cases hpg : g ≤ (k : Int) * 4 + j
                · cases hy0 : (y != 0)
                  · go_wp2_with fail
                    go_round
                    case rel => exact ⟨j + 1, by omega, by go_num, by rw [upto_succ, HU.out, HX6.out]; simp at hy0; simp [hy0]⟩
                    case measure => simp [intOf]; omega
                  · go_wp2_with fail
                    go_ret
                    refine ⟨ret_bool ?_, HB3⟩
                    rw [R.out, HL.out]
                    refine upto_false hlt (HY.out.trans ?_)
                    unfold behind
                    refine upto_false hlt4 ?_
                    rw [HX6.out, decide_eq_false (by omega)]
                    simp at hy0; simp [hy0]
                · have hpg' : (k : Int) * 4 + j < g := by omega
                  go_wp2_with fail
                  go_round
                  case rel => exact ⟨j + 1, by omega, by go_num, by rw [upto_succ, HU.out, decide_eq_true (by omega)]; rfl⟩
                  case measure => simp [intOf]; omega
              · have hj4 : j = 4 := by omega
                have HBE : Hid (behind g k s.table = true) := by
                  have := HU.out
                  rw [hj4] at this
                  exact Lib.hid this
                clear hj4
                go_wp2_with fail
                go_roundw
                case rel => exact ⟨k + 1, by omega, by go_num, by rw [upto_succ, HA.out, HY.out, HBE.out]; rfl, HBr3⟩
                case measure => simp [intOf]; omega
          · have HY := Lib.hid (rootAt_kind (g := g) HX.out hp hk2)
            have KK2 := Lib.hid (KK.out x)
            go_wp2_with fail
            go_still_tail 5, (by kernel_rfl)
            have HBD : Below w.heap.size w wr.drew := below_drewN HBW 1
            have hzd : wr.drew.heap.size = wr.heap.size := rfl
            generalize hwd : wr.drew = wd at HBD hzd
            have HWD := Lib.hid hwd
            go_wp2_with fail
            refine (KK2.out _ ?_).mono ?_
            · first | exact HBD | exact below_drewN HBW 1
            rintro e w2 ⟨rfl, hb2⟩
            go_wp2_with fail
            go_ret
            exact ⟨ret_bool (by rw [R.out, HL.out]; exact upto_false hlt HY.out), below_next HBD hb2⟩
        · go_wp2_with fail
          go_roundw
          case rel => exact ⟨k + 1, by omega, by go_num, by rw [upto_succ, HA.out, rootAt_no HX.out hp]; rfl, hbw⟩
          case measure => simp [intOf]; omega
      · go_wp2_with fail
        go_ret
        exact ⟨ret_bool (by rw [R.out, HL.out, show n = k from by omega, HA.out]), HB1.trans (hbw.mono (by omega))⟩
  · have R := Lib.hid (rootFine_len (l := m.slots) (g := g) (root := root) (by rw [hrl]; exact hw))
    have gw : ((n : Int) != wants g) = true := by simp [hw]
    generalize hwg : wants g = wg at gw
    have HW := Lib.hid hwg
    clear hw hwg h hr hrl hs
    go_enter Try.func51, Try.ntmps51
    go_wp2_with (go_at_call 75; refine (rwants_any g _ g0 (by omega)).mono ?_; rw [HW.out]; rintro e w' ⟨rfl, rfl⟩)
    go_ret
    exact ⟨ret_bool R.out, below1 _ _⟩
end Go.Proofs.Ytnjjnioilbnnpaa
