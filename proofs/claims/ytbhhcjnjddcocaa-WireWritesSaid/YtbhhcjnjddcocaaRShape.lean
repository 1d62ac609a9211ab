/- The reference's ShapeOf. Conditions: the image is read below the heap's size. -/
import Derived.Test.YtbhhcjnjddcocaaShapeA
import Derived.IntWalk
namespace Go.Proofs.Ytbhhcjnjddcocaa
open Go.RowKit Sl

set_option maxRecDepth 100000 in
set_option maxHeartbeats 8000000 in
theorem rshape_any (v : IV) (m : Img) (w : World) (h : ImgR w w.heap.size v m) :
    Calls Try.prog 15 #[.agg #[.int .i64 m.guest, .slice v.rA v.rn v.rc, .slice v.sA v.sn v.sc, .slice v.fA v.fn v.fc, .slice v.pA v.pn v.pc]] w fun e w' => e = .returned (.int .i64 (shapeErr m)) ∧ Below w.heap.size w w' := by
  obtain ⟨rA, rn, rc, sA, sn, sc, fA, fn, fc, pA, pn, pc⟩ := v
  have hsl : m.slots.length = sn := h.slen
  have hpl : m.snaps.length = pn := h.plen
  have hfl : m.refs.length = fn := h.flen
  have hsn : sn ≤ 4611686018427387903 := h.scap.1
  have hpn : pn ≤ 4611686018427387903 := h.pcap.1
  have hfn : fn ≤ 4611686018427387903 := h.fcap.1
  have hrn : rn ≤ 4611686018427387903 := h.rcap.1
  dsimp only
  by_cases h1 : 1 ≤ sn ∧ sn ≤ 40
  · have g1 : (decide (1 ≤ (sn : Int)) && decide ((sn : Int) ≤ 40)) = true := by simp; omega
    by_cases h2 : 3 < pn
    · have R := Lib.hid (sh_many (sizesOk_no (m := m) (by omega)))
      clear h hsl hpl hfl
      go_enter Try.func15, Try.ntmps15
      go_wp2_with (go_at_call 32; refine (within_any _ _ _ _).mono ?_; rintro e w' ⟨rfl, rfl⟩)
      go_ret
      exact ⟨ret_int R.out, below1 _ _⟩
    · have h2' : pn ≤ 3 := by omega
      have hS := sizesOk_yes (m := m) (by omega)
      have HE' := fun W (hb : Below w.heap.size w W) => rslots_any sA sn sc m.slots W ((h.slots.below hb (Nat.le_refl _)).more hb.size) hsn
      have HX0 := Box.new w m.guest ⟨rA, rn, rc, sA, sn, sc, fA, fn, fc, pA, pn, pc⟩ 26
      have HB0 := below1 w (.cells #[.int .i64 m.guest, .slice rA rn rc, .slice sA sn sc, .slice fA fn fc, .slice pA pn pc] 26)
      by_cases hE : slotsErr m.slots = 0 ∧ fn = sn
      · obtain ⟨hE1, rfl⟩ := hE
        have S1 : Sh1 m := ⟨hS, hE1, by omega⟩
        have HS1 := Lib.hid S1
        rw [hE1] at HE'
        have HE := Lib.hid HE'
        have HI := Lib.hid h
        have HSL := Lib.hid hsl
        have HPL := Lib.hid hpl
        have KN := Lib.hid (fun (y : Int) W (hb : Below w.heap.size w W) => rkind_any ⟨rA, rn, rc, sA, fn, sc, fA, fn, fc, pA, pn, pc⟩ m y W (h.next hb))
        have KR := Lib.hid (fun (g : Int) (A : Option Addr) (n c : Nat) (root : List Int) W (hb : Below w.heap.size w W) (hr : Rd W W.heap.size 1 A n (ints root)) (hn : n ≤ 4611686018427387903) (g0 : 0 ≤ g) (g16 : g ≤ 16) => rroot_any ⟨rA, rn, rc, sA, fn, sc, fA, fn, fc, pA, pn, pc⟩ m g A n c root W (h.next hb) hr hn hE1 g0 g16)
        clear hE1 S1 HE' h hsl hpl hfl hS h2
        obtain ⟨h11, h12⟩ := h1
        go_enter Try.func15, Try.ntmps15
        go_wp2_with (go_at_call 32; refine (within_any _ _ _ _).mono ?_; rintro e w' ⟨rfl, rfl⟩)
        refine (HE.out _ HB0).mono ?_
        rintro e w1 ⟨rfl, hb1⟩
        have HX1 := Lib.hid (HX0.keep hb1 (by simp))
        have HB := Lib.hid (below_next HB0 hb1)
        have hz1 : w.heap.size < w1.heap.size := by have := hb1.size; simp at this; omega
        obtain ⟨b0, b1, b2, b3, b4⟩ := HX1.out
        dsimp only at b0 b1 b2 b3 b4
        clear hb1 HX0 HB0
        go_wp2_with fail
        clear b0 b1 b2 b3 b4
        go_loopw [3] (fun i wr => ∃ k : Nat, k ≤ pn ∧ i = .int .i64 k ∧ upto (nameAt m.snaps) k = true ∧ Below w1.heap.size w1 wr) (fun i _ => pn - (intOf i).toNat)
        case atStart => exact ⟨0, Nat.zero_le _, rfl, rfl, Below.refl _ _⟩
        case round =>
          obtain ⟨k, hk, rfl, ha, hbw⟩ := hrel
          have HA := Lib.hid ha
          clear ha
          obtain ⟨b0, b1, b2, b3, b4⟩ := HX1.out.keep hbw hz1
          dsimp only at b0 b1 b2 b3 b4
          have HBr := Lib.hid (HB.out.trans (hbw.mono (by omega)))
          have hzr := hbw.size
          by_cases hlt : k < pn
          · obtain ⟨b, o, s, tA, tn, tc, rfl, hb, hx, c0, c1, c2, hsv⟩ := HI.out.snaps.at_ (k := k) hlt
            have c0' := (HBr.out.cell (p := ⟨b, o + k * 3, none⟩) hb).trans c0
            have hnm := hsv.name
            have kI0 : (0 : Int) ≤ (k : Int) := by omega
            have kIn : (k : Int) < (pn : Int) := by omega
            cases hn : isName s.name
            · have HF := Lib.hid (show nameAt m.snaps k = false from by unfold nameAt; rw [snapAt_at hx, hn]; rfl)
              clear hx c0 c1 c2 hsv
              go_wp2_with fail
              go_quiet ((go_at_call 34; exact quiet_same (hn ▸ rname_any _ _ hnm)))
              go_wp2_with fail
              go_ret
              exact ⟨ret_int (sh_names HS1.out (by unfold namesOk; rw [HPL.out]; exact upto_false hlt HF.out)), below_drewN HBr.out _⟩
            · by_cases hk0 : k = 0
              · subst hk0
                have HF := Lib.hid ((nameAt_0 hx).trans hn)
                simp only [Nat.zero_mul, Nat.add_zero] at c0'
                clear hx c0 c1 c2 hsv
                go_wp2_with fail
                go_quiet ((go_at_call 34; exact quiet_same (hn ▸ rname_any _ _ hnm)))
                go_wp2_with fail
                go_roundw
                case rel => exact ⟨0 + 1, by omega, by go_num, by rw [upto_succ, HA.out, HF.out]; rfl, below_drewN hbw _⟩
                case measure => simp [intOf]; omega
              · obtain ⟨b', o', s', tA', tn', tc', he', hb', hx', c0p, _, _, hsv'⟩ := HI.out.snaps.at_ (k := k - 1) (by dsimp only; omega)
                simp only [Option.some.injEq, Addr.mk.injEq, and_true] at he'
                obtain ⟨rfl, rfl⟩ := he'
                have hlt' := less_str s'.name s.name
                have hF := nameAt_succ hx hx' (by omega)
                rw [hn, Bool.true_and] at hF
                have c0p' := (HBr.out.cell (p := ⟨b, o + (k - 1) * 3, none⟩) hb).trans c0p
                have kk1 : decide ((0 : Int) < (k : Int)) = true := by simp; omega
                have kk1b : decide (0 < k) = true := by simp; omega
                have kk2 : (0 : Int) ≤ (k : Int) - 1 := by omega
                have kk3 : (k : Int) - 1 < (pn : Int) := by omega
                have kk4 : ((k : Int) - 1).toNat = k - 1 := by omega
                have kk5 : IntKind.i64.wrap ((k : Int) - 1) = (k : Int) - 1 := IntWalk.i64_in _ (by omega)
                have HF := Lib.hid hF
                clear hF
                cases hlx : strLt s'.name s.name
                · rw [hlx] at HF hlt'
                  clear hx c0 c1 c2 hsv hx' c0p hsv' hlx
                  go_wp2_with fail
                  go_quiet ((go_at_call 34; exact quiet_same (hn ▸ rname_any _ _ hnm)))
                  clear kk5
                  go_wp2_with fail
                  go_ret
                  exact ⟨ret_int (sh_names HS1.out (by unfold namesOk; rw [HPL.out]; exact upto_false hlt HF.out)), below_drewN HBr.out _⟩
                · rw [hlx] at HF hlt'
                  clear hx c0 c1 c2 hsv hx' c0p hsv' hlx
                  go_wp2_with fail
                  go_quiet ((go_at_call 34; exact quiet_same (hn ▸ rname_any _ _ hnm)))
                  clear kk5
                  go_wp2_with fail
                  go_roundw
                  case rel => exact ⟨k + 1, by omega, by go_num, by rw [upto_succ, HA.out, HF.out]; rfl, below_drewN hbw _⟩
                  case measure => simp [intOf]; omega
          · have hkn : k = pn := by omega
            have HN := Lib.hid (show namesOk m.snaps = true from by unfold namesOk; rw [HPL.out, ← hkn]; exact HA.out)
            clear HA hkn
            cases hg : (decide (0 ≤ m.guest) && decide (m.guest ≤ 16))
            · have R := Lib.hid (show guestsOk m = false from by unfold guestsOk guestOk; rw [hg]; rfl)
              go_wp2_with (go_at_call 32; refine (within_any _ _ _ _).mono ?_; rintro e w' ⟨rfl, rfl⟩)
              go_ret
              exact ⟨ret_int (sh_range HS1.out HN.out R.out), HBr.out⟩
            · have HG0 := Lib.hid hg
              go_wp2_with (go_at_call 32; refine (within_any _ _ _ _).mono ?_; rintro e w' ⟨rfl, rfl⟩)
              go_loop [4] (fun i => ∃ k2 : Nat, k2 ≤ pn ∧ i = .int .i64 k2 ∧ (m.snaps.take k2).all (fun s => guestOk s.guest) = true) (fun i => pn - (intOf i).toNat)
              case atStart => exact ⟨0, Nat.zero_le _, rfl, rfl⟩
              case round =>
                obtain ⟨k2, hk2, rfl, ha⟩ := hrel
                have HA := Lib.hid ha
                clear ha
                by_cases hlt2 : k2 < pn
                · obtain ⟨b, o, s, tA, tn, tc, rfl, hb, hx, c0, c1, c2, hsv⟩ := HI.out.snaps.at_ (k := k2) hlt2
                  have c1' := (HBr.out.cell (p := ⟨b, o + k2 * 3 + 1, none⟩) hb).trans c1
                  have HX := Lib.hid hx
                  clear hx c0 c1 c2 hsv
                  cases hgs : (decide (0 ≤ s.guest) && decide (s.guest ≤ 16))
                  · have R := Lib.hid (show guestsOk m = false from by unfold guestsOk; rw [all_false _ m.snaps k2 s HX.out hgs, Bool.and_false])
                    go_wp2_with (go_at_call 32; refine (within_any _ _ _ _).mono ?_; rintro e w' ⟨rfl, rfl⟩)
                    go_ret
                    exact ⟨ret_int (sh_range HS1.out HN.out R.out), HBr.out⟩
                  · have HGS := Lib.hid (show guestOk s.guest = true from hgs)
                    go_wp2_with (go_at_call 32; refine (within_any _ _ _ _).mono ?_; rintro e w' ⟨rfl, rfl⟩)
                    go_round
                    case rel => exact ⟨k2 + 1, by omega, by go_num, by rw [all_take_succ _ m.snaps k2 s HX.out, HA.out, HGS.out]; rfl⟩
                    case measure => simp [intOf]; omega
                · have HG := Lib.hid (show guestsOk m = true from by unfold guestsOk; rw [all_done _ m.snaps k2 (by rw [HPL.out]; omega) HA.out, Bool.and_true]; exact HG0.out)
                  clear HA
                  go_wp2_with fail
                  obtain ⟨W1, hW1⟩ : ∃ W1 : World, W1 = wr := ⟨_, rfl⟩
                  rw [← hW1] at hbw HBr b0 b1 b2 b3 b4 hzr ⊢
                  clear hW1 b0 b1 b2 b3 b4
                  go_loopw [5, 6, 7] (fun i _ _ wq => ∃ k3 : Nat, k3 ≤ fn ∧ i = .int .i64 k3 ∧ (m.slots.take k3).all (fun s => s.table.all (entryOk m.slots)) = true ∧ Below w1.heap.size w1 wq) (fun i _ _ _ => fn - (intOf i).toNat)
                  case atStart => exact ⟨0, Nat.zero_le _, rfl, rfl, hbw⟩
                  case round =>
                    clear hbw HBr hzr
                    obtain ⟨k3, hk3, rfl, ha, hbw⟩ := hrel
                    have HA := Lib.hid ha
                    clear ha
                    obtain ⟨b0, b1, b2, b3, b4⟩ := HX1.out.keep hbw hz1
                    dsimp only at b0 b1 b2 b3 b4
                    have HBr := Lib.hid (HB.out.trans (hbw.mono (by omega)))
                    have hzr := hbw.size
                    by_cases hlt3 : k3 < fn
                    · obtain ⟨b, o, s, tA, tn, tc, rfl, hb, hx, c0, c1, c2, hsv⟩ := HI.out.slots.at_ (k := k3) hlt3
                      have c2' := (HBr.out.cell (p := ⟨b, o + k3 * 3 + 2, none⟩) hb).trans c2
                      have HX := Lib.hid hx
                      have HSV := Lib.hid hsv
                      have htn : tn ≤ tc := hsv.len
                      have htc : tc ≤ 9223372036854775807 := hsv.cap.2
                      clear hx c0 c1 c2 hsv
                      go_wp2_with fail
                      clear c2'
                      obtain ⟨W2, hW2⟩ : ∃ W2 : World, W2 = wr := ⟨_, rfl⟩
                      rw [← hW2] at hbw HBr b0 b1 b2 b3 b4 hzr ⊢
                      clear hW2 b0 b1 b2 b3 b4
                      go_loopw [7] (fun i wq => ∃ j : Nat, j ≤ tn ∧ i = .int .i64 j ∧ (s.table.take j).all (entryOk m.slots) = true ∧ Below w1.heap.size w1 wq) (fun i _ => tn - (intOf i).toNat)
                      case atStart => exact ⟨0, Nat.zero_le _, rfl, rfl, hbw⟩
                      case round =>
                        clear hbw HBr hzr
                        obtain ⟨j, hj, rfl, ha, hbw⟩ := hrel
                        have HA2 := Lib.hid ha
                        clear ha
                        obtain ⟨b0, b1, b2, b3, b4⟩ := HX1.out.keep hbw hz1
                        dsimp only at b0 b1 b2 b3 b4
                        have HBr := Lib.hid (HB.out.trans (hbw.mono (by omega)))
                        have hzr := hbw.size
                        by_cases hltj : j < tn
                        · obtain ⟨b6, o6, x, rfl, hb6, hx6, hcell6⟩ := HSV.out.table.at1 hltj
                          have hcell := (HBr.out.cell (p := ⟨b6, o6 + j, none⟩) hb6).trans hcell6
                          have HX6 := Lib.hid hx6
                          have j0 : (0 : Int) ≤ (j : Int) := by omega
                          have j1 : (j : Int) < (tn : Int) := by omega
                          clear hx6 hcell6
                          by_cases hx0 : 0 < x
                          · have hd : decide (0 < x) = true := by simp [hx0]
                            have heo := entryOk_hi (l := m.slots) hx0
                            have KN2 := Lib.hid (KN.out x)
                            have HBD : Below w.heap.size w wr.drew := below_drewN HBr.out 1
                            have hbwd : Below w1.heap.size w1 wr.drew := below_drewN hbw 1
                            have hzd : wr.drew.heap.size = wr.heap.size := rfl
                            cases hk1 : (kindOf m.slots x != 1)
                            · have HEO := Lib.hid (show entryOk m.slots x = true from by rw [heo]; simpa using hk1)
                              clear heo
                              go_wp2_with fail
                              go_still_tail 11, (by kernel_rfl)
                              go_wp2_with fail
                              refine (KN2.out _ HBD).mono ?_
                              rintro e w5 ⟨rfl, hb5⟩
                              go_wp2_with fail
                              go_roundw
                              case rel => exact ⟨j + 1, by omega, by go_num, by rw [all_take_succ _ s.table j x HX6.out, HA2.out, HEO.out]; rfl, hbwd.trans (hb5.mono (by omega))⟩
                              case measure => simp [intOf]; omega
                            · have HEO := Lib.hid (show entryOk m.slots x = false from by rw [heo]; simpa using hk1)
                              clear heo
                              go_wp2_with fail
                              go_still_tail 11, (by kernel_rfl)
                              go_wp2_with fail
                              refine (KN2.out _ HBD).mono ?_
                              rintro e w5 ⟨rfl, hb5⟩
                              go_wp2_with fail
                              go_ret
                              exact ⟨ret_int (sh_tables HS1.out HN.out HG.out (all_false _ m.slots k3 s HX.out (all_false _ s.table j x HX6.out HEO.out))), below_next HBD hb5⟩
                          · have hd : decide (0 < x) = false := by simp; omega
                            have HEO := Lib.hid (entryOk_lo (l := m.slots) (show x ≤ 0 by omega))
                            clear hx0
                            go_wp2_with fail
                            go_quiet (fail)
                            go_wp2_with fail
                            go_roundw
                            case rel => exact ⟨j + 1, by omega, by go_num, by rw [all_take_succ _ s.table j x HX6.out, HA2.out, HEO.out]; rfl, below_drewN hbw _⟩
                            case measure => simp [intOf]; omega
                        · have HD := Lib.hid (all_done _ s.table j (by rw [HSV.out.table.len]; omega) HA2.out)
                          go_wp2_with fail
                          go_roundw
                          case rel => exact ⟨k3 + 1, by omega, by go_num, by rw [all_take_succ _ m.slots k3 s HX.out, HA.out, HD.out]; rfl, hbw⟩
                          case measure => simp [intOf]; omega
                    · have HT := Lib.hid (show tablesOk m.slots = true from all_done _ m.slots k3 (by rw [HSL.out]; omega) HA.out)
                      have hgg := HG0.out
                      rw [Bool.and_eq_true, decide_eq_true_eq, decide_eq_true_eq] at hgg
                      obtain ⟨gg1, gg2⟩ := hgg
                      have KR0 := KR.out m.guest rA rn rc m.root wr HBr.out ((HI.out.root.below HBr.out (Nat.le_refl _)).more HBr.out.size) hrn gg1 gg2
                      cases hr0 : rootFine m.slots m.guest m.root
                      · rw [hr0] at KR0
                        have KR1 := Lib.hid KR0
                        have HR0 := Lib.hid hr0
                        clear KR0 hr0 gg1 gg2 HA
                        go_wp2_with fail
                        refine KR1.out.mono ?_
                        rintro e w5 ⟨rfl, hb5⟩
                        go_wp2_with fail
                        go_ret
                        exact ⟨ret_int (sh_roots HS1.out HN.out HG.out HT.out (by unfold rootsOk; rw [HR0.out]; rfl)), below_next HBr.out hb5⟩
                      · rw [hr0] at KR0
                        have KR1 := Lib.hid KR0
                        have HR0 := Lib.hid hr0
                        clear KR0 hr0 gg1 gg2 HA
                        go_wp2_with fail
                        refine KR1.out.mono ?_
                        rintro e w5 ⟨rfl, hb5⟩
                        have hbw5 : Below w1.heap.size w1 w5 := hbw.trans (hb5.mono hzr)
                        clear hbw HBr hzr b0 b1 b2 b3 b4 hb5
                        go_wp2_with fail
                        go_loopw [8] (fun i wq => ∃ k4 : Nat, k4 ≤ pn ∧ i = .int .i64 k4 ∧ (m.snaps.take k4).all (fun s => rootFine m.slots s.guest s.root) = true ∧ Below w1.heap.size w1 wq) (fun i _ => pn - (intOf i).toNat)
                        case atStart => exact ⟨0, Nat.zero_le _, rfl, rfl, hbw5⟩
                        case round =>
                          clear hbw5
                          obtain ⟨k4, hk4, rfl, ha, hbw⟩ := hrel
                          have HA := Lib.hid ha
                          clear ha
                          obtain ⟨b0, b1, b2, b3, b4⟩ := HX1.out.keep hbw hz1
                          dsimp only at b0 b1 b2 b3 b4
                          have HBr := Lib.hid (HB.out.trans (hbw.mono (by omega)))
                          have hzr := hbw.size
                          by_cases hlt4 : k4 < pn
                          · obtain ⟨b, o, s, tA, tn, tc, rfl, hb, hx, c0, c1, c2, hsv⟩ := HI.out.snaps.at_ (k := k4) hlt4
                            have c1' := (HBr.out.cell (p := ⟨b, o + k4 * 3 + 1, none⟩) hb).trans c1
                            have c2' := (HBr.out.cell (p := ⟨b, o + k4 * 3 + 2, none⟩) hb).trans c2
                            have hgs : guestOk s.guest = true := by
                              have := HG.out
                              unfold guestsOk at this
                              rw [Bool.and_eq_true, List.all_eq_true] at this
                              exact this.2 s (List.mem_of_getElem? hx)
                            unfold guestOk at hgs
                            rw [Bool.and_eq_true, decide_eq_true_eq, decide_eq_true_eq] at hgs
                            obtain ⟨gg1, gg2⟩ := hgs
                            have HBD : Below w.heap.size w wr.drew := below_drewN HBr.out 1
                            have hbwd : Below w1.heap.size w1 wr.drew := below_drewN hbw 1
                            have hzd : wr.drew.heap.size = wr.heap.size := rfl
                            have KR0 := KR.out s.guest tA tn tc s.root wr.drew HBD ((hsv.root.below HBD (Nat.le_refl _)).more HBD.size) (hsv.cap.1) gg1 gg2
                            have HX := Lib.hid hx
                            have i0 : (0 : Int) ≤ (k4 : Int) := by omega
                            have i1 : (k4 : Int) < (pn : Int) := by omega
                            clear hx c0 c1 c2 hsv gg1 gg2
                            cases hr1 : rootFine m.slots s.guest s.root
                            · rw [hr1] at KR0
                              have KR2 := Lib.hid KR0
                              have HR1 := Lib.hid hr1
                              clear KR0 hr1
                              go_wp2_with fail
                              go_still_tail 13, (by kernel_rfl)
                              go_wp2_with fail
                              refine KR2.out.mono ?_
                              rintro e w6 ⟨rfl, hb6⟩
                              go_wp2_with fail
                              go_ret
                              exact ⟨ret_int (sh_roots HS1.out HN.out HG.out HT.out (by unfold rootsOk; rw [all_false _ m.snaps k4 s HX.out HR1.out, Bool.and_false])), below_next HBD hb6⟩
                            · rw [hr1] at KR0
                              have KR2 := Lib.hid KR0
                              have HR1 := Lib.hid hr1
                              clear KR0 hr1
                              go_wp2_with fail
                              go_still_tail 13, (by kernel_rfl)
                              go_wp2_with fail
                              refine KR2.out.mono ?_
                              rintro e w6 ⟨rfl, hb6⟩
                              go_wp2_with fail
                              go_roundw
                              case rel => exact ⟨k4 + 1, by omega, by go_num, by rw [all_take_succ _ m.snaps k4 s HX.out, HA.out, HR1.out]; rfl, hbwd.trans (hb6.mono (by omega))⟩
                              case measure => simp [intOf]; omega
                          · have HRA := Lib.hid (show rootsOk m = true from by unfold rootsOk; rw [all_done _ m.snaps k4 (by rw [HPL.out]; omega) HA.out, HR0.out]; rfl)
                            go_wp2_with fail
                            go_ret
                            exact ⟨ret_int (sh_ok HS1.out HN.out HG.out HT.out HRA.out), HBr.out⟩
      · have R := Lib.hid (sh_slots (m := m) hS (by omega))
        have hor : (slotsErr m.slots != 0) = true ∨ (slotsErr m.slots = 0 ∧ ((fn : Int) != (sn : Int)) = true) := by
          by_cases h0 : slotsErr m.slots = 0
          · exact .inr ⟨h0, by simp; omega⟩
          · exact .inl (by simpa using h0)
        generalize slotsErr m.slots = er at HE' hor
        clear hE h hsl hpl hfl hS h2
        obtain ⟨h11, h12⟩ := h1
        rcases hor with hor | ⟨rfl, hor⟩
        all_goals
          have HE := Lib.hid HE'
          clear HE'
          go_enter Try.func15, Try.ntmps15
          go_wp2_with (go_at_call 32; refine (within_any _ _ _ _).mono ?_; rintro e w' ⟨rfl, rfl⟩)
          refine (HE.out _ HB0).mono ?_
          rintro e w1 ⟨rfl, hb1⟩
          obtain ⟨b0, b1, b2, b3, b4⟩ := HX0.keep hb1 (by simp)
          dsimp only at b0 b1 b2 b3 b4
          have HB := Lib.hid (below_next HB0 hb1)
          clear hb1 HX0 HB0
          go_wp2_with fail
          go_ret
          exact ⟨ret_int R.out, HB.out⟩
  · have R := Lib.hid (sh_many (sizesOk_no (m := m) (by omega)))
    have g1 : (decide (1 ≤ (sn : Int)) && decide ((sn : Int) ≤ 40)) = false := by rw [Bool.eq_false_iff]; simp; omega
    clear h hsl hpl hfl h1
    go_enter Try.func15, Try.ntmps15
    go_wp2_with (go_at_call 32; refine (within_any _ _ _ _).mono ?_; rintro e w' ⟨rfl, rfl⟩)
    go_ret
    exact ⟨ret_int R.out, below1 _ _⟩
end Go.Proofs.Ytbhhcjnjddcocaa
