/- The laws ReadsTells and ReadsTrue, walked. Conditions: the image is read below the heap's size. -/
import Derived.Test.YtnjjnioilbnnpaaReadsBegun
namespace Go.Proofs.Ytnjjnioilbnnpaa
open Go.RowKit Sl

theorem past_len (m : Img) (name : ByteArray) : (pastV m name).length ≤ 4611686018427387903 := by
  unfold pastV
  split
  · rename_i hp
    rw [allV_len]
    have hck : checkErr m = 0 := by
      apply Classical.byContradiction
      intro hn
      rw [(past_no (name := name) hn).1] at hp
      exact hn hp
    have hany : m.snaps.any (named name) = true := by
      cases hn : m.snaps.any (named name)
      · rw [(past_none hck hn).1] at hp; omega
      · rfl
    obtain ⟨k, s, hk, hs, hf, _⟩ := past_ok hck hany
    rw [hf, snapAt_at hs]
    have := snap_facts hck hs
    omega
  · simp
set_option maxRecDepth 100000 in
set_option maxHeartbeats 8000000 in
theorem law_readsTells (v : IV) (m : Img) (x : Int) (name : ByteArray) (w : World) (h : ImgR w w.heap.size v m) :
    Calls Try.prog 9 #[imgV m v, .int .i64 x, .string name] w fun e w' => e = .returned (.bool true) ∧ Below w.heap.size w w' := by
  have KR' := fun W (hb : Below w.heap.size w W) => tread_any v m x W (h.next hb)
  have KA' := fun W (hb : Below w.heap.size w W) => tAll_any v m W (h.next hb)
  have KP' := fun W (hb : Below w.heap.size w W) => tPast_any v m name W (h.next hb)
  have KL' := fun W (hb : Below w.heap.size w W) => rlookE_any v m x W (h.next hb)
  have KC' := fun W (hb : Below w.heap.size w W) => rcheckimg_any v m W (h.next hb)
  have KQ' := fun W (hb : Below w.heap.size w W) => rPast_any v m name W (h.next hb)
  have hlp : (pastV m name).length ≤ 4611686018427387903 := past_len m name
  generalize pastV m name = pv at KP' KQ' hlp
  generalize pastE m name = pe at KP' KQ'
  have KP := Lib.hid KP'
  have KQ := Lib.hid KQ'
  have HLP := Lib.hid hlp
  clear KP' KQ' hlp
  by_cases he : checkErr m = 0
  · obtain ⟨g0, g16, hrf⟩ := own_facts he
    obtain ⟨g, hgm⟩ := Int.eq_ofNat_of_zero_le g0
    have hal : allM m = allV m.slots m.root g := by rw [allM_ok he, hgm, Int.toNat_natCast]
    have KAO' := fun W (hb : Below w.heap.size w W) => rallOf_any v m g W (h.next hb) (by omega) hgm (fun k hk => entOk_own he (by omega)) (fun k => entry_ok he m.root k)
    have hll : (allM m).length = g := by rw [hal, allV_len]
    rw [← hal] at KAO'
    have hl3 : (allM m).length ≤ 4611686018427387903 := by omega
    have hlo : g ≤ 4611686018427387903 := by omega
    generalize allM m = al at KA' KAO' hl3
    rw [he] at KA' KC'
    have KA := Lib.hid KA'
    have KC := Lib.hid KC'
    have KAO := Lib.hid KAO'
    have HL3 := Lib.hid hl3
    have HLO := Lib.hid hlo
    clear KA' KC' KAO' hl3 hlo g16 hrf hal hll
    by_cases hl : lookE m x = 0
    · obtain ⟨hck, hx0, hx1⟩ := look_is hl
      obtain ⟨n, rfl⟩ := Int.eq_ofNat_of_zero_le hx0
      have KO' := fun W (hb : Below w.heap.size w W) => rreadOf_any v m n W (h.next hb) (entOk_own he hx1) (entry_ok he m.root n)
      rw [← read_ok hl] at KO'
      rw [hl] at KR' KL'
      generalize readV m (n : Nat) = pg at KR' KO'
      have KR := Lib.hid KR'
      have KL := Lib.hid KL'
      have KO := Lib.hid KO'
      clear KR' KL' KO' h he hl hck hx0 hx1 g0 hgm
      obtain ⟨rA, rn, rc, sA, sn, sc, fA, fn, fc, pA, pn, pc⟩ := v
      dsimp only [imgV] at KR KA KP KL KC KQ KO KAO ⊢
      have HB1 := below1 w (.cells #[.int .i64 m.guest, .slice rA rn rc, .slice sA sn sc, .slice fA fn fc, .slice pA pn pc] 26)
      have HX := Lib.hid (Box.new w m.guest ⟨rA, rn, rc, sA, sn, sc, fA, fn, fc, pA, pn, pc⟩ 26)
      have hz : w.heap.size < (w.alloc (.cells #[.int .i64 m.guest, .slice rA rn rc, .slice sA sn sc, .slice fA fn fc, .slice pA pn pc] 26)).heap.size := by simp
      go_enter Try.func9, Try.ntmps9
      go_wp2_with fail
      refine (KR.out _ HB1).mono ?_
      rintro e w2 ⟨rfl, hb2⟩
      have T2 := Lib.hid (below_next HB1 hb2)
      have X2 := Lib.hid (HX.out.keep hb2 hz)
      have hz2 : w.heap.size < w2.heap.size := by have := hb2.size; omega
      clear hb2 HX HB1
      obtain ⟨b0, b1, b2, b3, b4⟩ := X2.out
      dsimp only at b0 b1 b2 b3 b4
      go_wp2_with fail
      refine (KA.out _ T2.out).mono ?_
      rintro e w3 ⟨A3, n3, c3, rfl, ho3, hb3, hc3, hm3⟩
      have T3 := Lib.hid (below_next T2.out hb3)
      have X3 := Lib.hid (X2.out.keep hb3 hz2)
      have hz3 : w.heap.size < w3.heap.size := by have := hb3.size; omega
      obtain ⟨rfl, hr3⟩ := own_strs ho3
      have R3 := Lib.hid hr3
      clear ho3 hr3 hm3
      clear hb3 X2 T2 b0 b1 b2 b3 b4
      obtain ⟨b0, b1, b2, b3, b4⟩ := X3.out
      dsimp only at b0 b1 b2 b3 b4
      go_wp2_with fail
      refine (KP.out _ T3.out).mono ?_
      rintro e w4 ⟨A4, n4, c4, rfl, ho4, hb4, hc4, hm4⟩
      have T4 := Lib.hid (below_next T3.out hb4)
      have X4 := Lib.hid (X3.out.keep hb4 hz3)
      have hz4 : w.heap.size < w4.heap.size := by have := hb4.size; omega
      obtain ⟨rfl, hr4⟩ := own_strs ho4
      have R4 := Lib.hid hr4
      have R34 := Lib.hid (R3.out.next hb4)
      clear ho4 hr4 hm4 R3
      clear hb4 X3 T3 b0 b1 b2 b3 b4
      obtain ⟨b0, b1, b2, b3, b4⟩ := X4.out
      dsimp only at b0 b1 b2 b3 b4
      go_wp2_with fail
      refine (KL.out _ T4.out).mono ?_
      rintro e w5 ⟨rfl, hb5⟩
      have T5 := Lib.hid (below_next T4.out hb5)
      have X5 := Lib.hid (X4.out.keep hb5 hz4)
      have hz5 : w.heap.size < w5.heap.size := by have := hb5.size; omega
      have R35 := Lib.hid (R34.out.next hb5)
      have R45 := Lib.hid (R4.out.next hb5)
      clear R34 R4
      clear hb5 X4 T4 b0 b1 b2 b3 b4
      obtain ⟨b0, b1, b2, b3, b4⟩ := X5.out
      dsimp only at b0 b1 b2 b3 b4
      go_wp2_with fail
      refine (KC.out _ T5.out).mono ?_
      rintro e w6 ⟨rfl, hb6⟩
      have T6 := Lib.hid (below_next T5.out hb6)
      have X6 := Lib.hid (X5.out.keep hb6 hz5)
      have hz6 : w.heap.size < w6.heap.size := by have := hb6.size; omega
      have R36 := Lib.hid (R35.out.next hb6)
      have R46 := Lib.hid (R45.out.next hb6)
      clear R35 R45
      clear hb6 X5 T5 b0 b1 b2 b3 b4
      obtain ⟨b0, b1, b2, b3, b4⟩ := X6.out
      dsimp only at b0 b1 b2 b3 b4
      go_wp2_with fail
      refine (KO.out _ T6.out).mono ?_
      rintro e w7 ⟨rfl, hb7⟩
      have T7 := Lib.hid (below_next T6.out hb7)
      have X7 := Lib.hid (X6.out.keep hb7 hz6)
      have hz7 : w.heap.size < w7.heap.size := by have := hb7.size; omega
      have R37 := Lib.hid (R36.out.next hb7)
      have R47 := Lib.hid (R46.out.next hb7)
      clear R36 R46
      clear hb7 X6 T6 b0 b1 b2 b3 b4
      obtain ⟨b0, b1, b2, b3, b4⟩ := X7.out
      dsimp only at b0 b1 b2 b3 b4
      go_wp2_with fail
      refine (KAO.out _ T7.out).mono ?_
      rintro e w8 ⟨A8, c8, rfl, ho8, hb8, hc8, hm8⟩
      have T8 := Lib.hid (below_next T7.out hb8)
      have X8 := Lib.hid (X7.out.keep hb8 hz7)
      have hz8 : w.heap.size < w8.heap.size := by have := hb8.size; omega
      have RO := Lib.hid (Rd.of_own ho8)
      have R38 := Lib.hid (R37.out.next hb8)
      have R48 := Lib.hid (R47.out.next hb8)
      clear ho8 hm8 R37 R47
      clear hb8 X7 T7 b0 b1 b2 b3 b4
      obtain ⟨b0, b1, b2, b3, b4⟩ := X8.out
      dsimp only at b0 b1 b2 b3 b4
      go_wp2_with fail
      refine (KQ.out _ T8.out).mono ?_
      rintro e w9 ⟨A9, n9, c9, rfl, ho9, hb9, hc9, hm9⟩
      have T9 := Lib.hid (below_next T8.out hb9)
      have X9 := Lib.hid (X8.out.keep hb9 hz8)
      have hz9 : w.heap.size < w9.heap.size := by have := hb9.size; omega
      obtain ⟨rfl, hr9⟩ := own_strs ho9
      have RQ := Lib.hid hr9
      have R39 := Lib.hid (R38.out.next hb9)
      have R49 := Lib.hid (R48.out.next hb9)
      have RO2 := Lib.hid (RO.out.next hb9)
      clear ho9 hr9 hm9 R38 R48
      clear hb9 X8 T8 b0 b1 b2 b3 b4
      go_wp2_with fail
      refine (readsBegun_any _).mono ?_
      rintro e wb ⟨rfl, hbb⟩
      have Tb := Lib.hid (below_next T9.out hbb)
      have S1 := Lib.hid (samePages_any A3 A8 _ _ c3 c8 al al wb (R39.out.next hbb) (RO2.out.next hbb) HL3.out HLO.out)
      have R4b := Lib.hid (R49.out.next hbb)
      have RQb := Lib.hid (RQ.out.next hbb)
      clear hbb
      go_wp2_with fail
      refine S1.out.mono ?_
      rintro e wc ⟨rfl, hbc⟩
      have S2 := Lib.hid (samePages_any A4 A9 _ _ c4 c9 pv pv wc (R4b.out.next hbc) (RQb.out.next hbc) HLP.out HLP.out)
      have Tc := Lib.hid (below_next Tb.out hbc)
      clear hbc
      go_wp2_with fail
      refine S2.out.mono ?_
      rintro e wd ⟨rfl, hbd⟩
      go_wp2_with fail
      go_ret
      exact ⟨by simp, below_next Tc.out hbd⟩
    · have hl' : (lookE m x == 0) = false := by simpa using hl
      rw [show readV m x = { data := #[] } from read_no hl] at KR'
      generalize lookE m x = le at KR' KL' hl'
      have KR := Lib.hid KR'
      have KL := Lib.hid KL'
      clear KR' KL' h he hl g0 hgm
      obtain ⟨rA, rn, rc, sA, sn, sc, fA, fn, fc, pA, pn, pc⟩ := v
      dsimp only [imgV] at KR KA KP KL KC KQ KAO ⊢
      have HB1 := below1 w (.cells #[.int .i64 m.guest, .slice rA rn rc, .slice sA sn sc, .slice fA fn fc, .slice pA pn pc] 26)
      have HX := Lib.hid (Box.new w m.guest ⟨rA, rn, rc, sA, sn, sc, fA, fn, fc, pA, pn, pc⟩ 26)
      have hz : w.heap.size < (w.alloc (.cells #[.int .i64 m.guest, .slice rA rn rc, .slice sA sn sc, .slice fA fn fc, .slice pA pn pc] 26)).heap.size := by simp
      go_enter Try.func9, Try.ntmps9
      go_wp2_with fail
      refine (KR.out _ HB1).mono ?_
      rintro e w2 ⟨rfl, hb2⟩
      have T2 := Lib.hid (below_next HB1 hb2)
      have X2 := Lib.hid (HX.out.keep hb2 hz)
      have hz2 : w.heap.size < w2.heap.size := by have := hb2.size; omega
      clear hb2 HX HB1
      obtain ⟨b0, b1, b2, b3, b4⟩ := X2.out
      dsimp only at b0 b1 b2 b3 b4
      go_wp2_with fail
      refine (KA.out _ T2.out).mono ?_
      rintro e w3 ⟨A3, n3, c3, rfl, ho3, hb3, hc3, hm3⟩
      have T3 := Lib.hid (below_next T2.out hb3)
      have X3 := Lib.hid (X2.out.keep hb3 hz2)
      have hz3 : w.heap.size < w3.heap.size := by have := hb3.size; omega
      obtain ⟨rfl, hr3⟩ := own_strs ho3
      have R3 := Lib.hid hr3
      clear ho3 hr3 hm3
      clear hb3 X2 T2 b0 b1 b2 b3 b4
      obtain ⟨b0, b1, b2, b3, b4⟩ := X3.out
      dsimp only at b0 b1 b2 b3 b4
      go_wp2_with fail
      refine (KP.out _ T3.out).mono ?_
      rintro e w4 ⟨A4, n4, c4, rfl, ho4, hb4, hc4, hm4⟩
      have T4 := Lib.hid (below_next T3.out hb4)
      have X4 := Lib.hid (X3.out.keep hb4 hz3)
      have hz4 : w.heap.size < w4.heap.size := by have := hb4.size; omega
      obtain ⟨rfl, hr4⟩ := own_strs ho4
      have R4 := Lib.hid hr4
      have R34 := Lib.hid (R3.out.next hb4)
      clear ho4 hr4 hm4 R3
      clear hb4 X3 T3 b0 b1 b2 b3 b4
      obtain ⟨b0, b1, b2, b3, b4⟩ := X4.out
      dsimp only at b0 b1 b2 b3 b4
      go_wp2_with fail
      refine (KL.out _ T4.out).mono ?_
      rintro e w5 ⟨rfl, hb5⟩
      have T5 := Lib.hid (below_next T4.out hb5)
      have X5 := Lib.hid (X4.out.keep hb5 hz4)
      have hz5 : w.heap.size < w5.heap.size := by have := hb5.size; omega
      have R35 := Lib.hid (R34.out.next hb5)
      have R45 := Lib.hid (R4.out.next hb5)
      clear R34 R4
      clear hb5 X4 T4 b0 b1 b2 b3 b4
      obtain ⟨b0, b1, b2, b3, b4⟩ := X5.out
      dsimp only at b0 b1 b2 b3 b4
      go_wp2_with fail
      refine (KC.out _ T5.out).mono ?_
      rintro e w6 ⟨rfl, hb6⟩
      have T6 := Lib.hid (below_next T5.out hb6)
      have X6 := Lib.hid (X5.out.keep hb6 hz5)
      have hz6 : w.heap.size < w6.heap.size := by have := hb6.size; omega
      have R36 := Lib.hid (R35.out.next hb6)
      have R46 := Lib.hid (R45.out.next hb6)
      clear R35 R45
      clear hb6 X5 T5 b0 b1 b2 b3 b4
      obtain ⟨b0, b1, b2, b3, b4⟩ := X6.out
      dsimp only at b0 b1 b2 b3 b4
      go_wp2_with fail
      refine (KAO.out _ T6.out).mono ?_
      rintro e w7 ⟨A7, c7, rfl, ho7, hb7, hc7, hm7⟩
      have T7 := Lib.hid (below_next T6.out hb7)
      have X7 := Lib.hid (X6.out.keep hb7 hz6)
      have hz7 : w.heap.size < w7.heap.size := by have := hb7.size; omega
      have RO := Lib.hid (Rd.of_own ho7)
      have R37 := Lib.hid (R36.out.next hb7)
      have R47 := Lib.hid (R46.out.next hb7)
      clear ho7 hm7 R36 R46
      clear hb7 X6 T6 b0 b1 b2 b3 b4
      obtain ⟨b0, b1, b2, b3, b4⟩ := X7.out
      dsimp only at b0 b1 b2 b3 b4
      go_wp2_with fail
      refine (KQ.out _ T7.out).mono ?_
      rintro e w8 ⟨A8, n8, c8, rfl, ho8, hb8, hc8, hm8⟩
      have T8 := Lib.hid (below_next T7.out hb8)
      have X8 := Lib.hid (X7.out.keep hb8 hz7)
      have hz8 : w.heap.size < w8.heap.size := by have := hb8.size; omega
      obtain ⟨rfl, hr8⟩ := own_strs ho8
      have RQ := Lib.hid hr8
      have R38 := Lib.hid (R37.out.next hb8)
      have R48 := Lib.hid (R47.out.next hb8)
      have RO2 := Lib.hid (RO.out.next hb8)
      clear ho8 hr8 hm8 R37 R47
      clear hb8 X7 T7 b0 b1 b2 b3 b4
      go_wp2_with fail
      refine (readsBegun_any _).mono ?_
      rintro e wb ⟨rfl, hbb⟩
      have Tb := Lib.hid (below_next T8.out hbb)
      have S1 := Lib.hid (samePages_any A3 A7 _ _ c3 c7 al al wb (R38.out.next hbb) (RO2.out.next hbb) HL3.out HLO.out)
      have R4b := Lib.hid (R48.out.next hbb)
      have RQb := Lib.hid (RQ.out.next hbb)
      clear hbb
      go_wp2_with fail
      refine S1.out.mono ?_
      rintro e wc ⟨rfl, hbc⟩
      have S2 := Lib.hid (samePages_any A4 A8 _ _ c4 c8 pv pv wc (R4b.out.next hbc) (RQb.out.next hbc) HLP.out HLP.out)
      have Tc := Lib.hid (below_next Tb.out hbc)
      clear hbc
      go_wp2_with fail
      refine S2.out.mono ?_
      rintro e wd ⟨rfl, hbd⟩
      go_wp2_with fail
      go_ret
      exact ⟨by simp, below_next Tc.out hbd⟩
  · have hl : lookE m x = checkErr m := by unfold lookE; rw [if_pos he]
    have hl' : (checkErr m == 0) = false := by simpa using he
    rw [show readV m x = { data := #[] } from read_no (by rw [hl]; exact he), hl] at KR'
    rw [allM_no he] at KA'
    rw [hl] at KL'
    generalize checkErr m = ce at KR' KL' KC' KA' hl'
    have KR := Lib.hid KR'
    have KL := Lib.hid KL'
    have KA := Lib.hid KA'
    have KC := Lib.hid KC'
    clear KR' KL' KA' KC' h he hl
    obtain ⟨rA, rn, rc, sA, sn, sc, fA, fn, fc, pA, pn, pc⟩ := v
    dsimp only [imgV] at KR KA KP KL KC KQ ⊢
    have HB1 := below1 w (.cells #[.int .i64 m.guest, .slice rA rn rc, .slice sA sn sc, .slice fA fn fc, .slice pA pn pc] 26)
    have HX := Lib.hid (Box.new w m.guest ⟨rA, rn, rc, sA, sn, sc, fA, fn, fc, pA, pn, pc⟩ 26)
    have hz : w.heap.size < (w.alloc (.cells #[.int .i64 m.guest, .slice rA rn rc, .slice sA sn sc, .slice fA fn fc, .slice pA pn pc] 26)).heap.size := by simp
    go_enter Try.func9, Try.ntmps9
    go_wp2_with fail
    refine (KR.out _ HB1).mono ?_
    rintro e w2 ⟨rfl, hb2⟩
    have T2 := Lib.hid (below_next HB1 hb2)
    have X2 := Lib.hid (HX.out.keep hb2 hz)
    have hz2 : w.heap.size < w2.heap.size := by have := hb2.size; omega
    clear hb2 HX HB1
    obtain ⟨b0, b1, b2, b3, b4⟩ := X2.out
    dsimp only at b0 b1 b2 b3 b4
    go_wp2_with fail
    refine (KA.out _ T2.out).mono ?_
    rintro e w3 ⟨A3, n3, c3, rfl, ho3, hb3, hc3, hm3⟩
    have T3 := Lib.hid (below_next T2.out hb3)
    have X3 := Lib.hid (X2.out.keep hb3 hz2)
    have hz3 : w.heap.size < w3.heap.size := by have := hb3.size; omega
    obtain ⟨rfl, hr3⟩ := own_strs ho3
    have R3 := Lib.hid hr3
    clear ho3 hr3 hm3
    clear hb3 X2 T2 b0 b1 b2 b3 b4
    obtain ⟨b0, b1, b2, b3, b4⟩ := X3.out
    dsimp only at b0 b1 b2 b3 b4
    go_wp2_with fail
    refine (KP.out _ T3.out).mono ?_
    rintro e w4 ⟨A4, n4, c4, rfl, ho4, hb4, hc4, hm4⟩
    have T4 := Lib.hid (below_next T3.out hb4)
    have X4 := Lib.hid (X3.out.keep hb4 hz3)
    have hz4 : w.heap.size < w4.heap.size := by have := hb4.size; omega
    obtain ⟨rfl, hr4⟩ := own_strs ho4
    have R4 := Lib.hid hr4
    have R34 := Lib.hid (R3.out.next hb4)
    clear ho4 hr4 hm4 R3
    clear hb4 X3 T3 b0 b1 b2 b3 b4
    obtain ⟨b0, b1, b2, b3, b4⟩ := X4.out
    dsimp only at b0 b1 b2 b3 b4
    go_wp2_with fail
    refine (KL.out _ T4.out).mono ?_
    rintro e w5 ⟨rfl, hb5⟩
    have T5 := Lib.hid (below_next T4.out hb5)
    have X5 := Lib.hid (X4.out.keep hb5 hz4)
    have hz5 : w.heap.size < w5.heap.size := by have := hb5.size; omega
    have R35 := Lib.hid (R34.out.next hb5)
    have R45 := Lib.hid (R4.out.next hb5)
    clear R34 R4
    clear hb5 X4 T4 b0 b1 b2 b3 b4
    obtain ⟨b0, b1, b2, b3, b4⟩ := X5.out
    dsimp only at b0 b1 b2 b3 b4
    go_wp2_with fail
    refine (KC.out _ T5.out).mono ?_
    rintro e w6 ⟨rfl, hb6⟩
    have T6 := Lib.hid (below_next T5.out hb6)
    have X6 := Lib.hid (X5.out.keep hb6 hz5)
    have hz6 : w.heap.size < w6.heap.size := by have := hb6.size; omega
    have R36 := Lib.hid (R35.out.next hb6)
    have R46 := Lib.hid (R45.out.next hb6)
    clear R35 R45
    clear hb6 X5 T5 b0 b1 b2 b3 b4
    obtain ⟨b0, b1, b2, b3, b4⟩ := X6.out
    dsimp only at b0 b1 b2 b3 b4
    go_wp2_with fail
    refine (KQ.out _ T6.out).mono ?_
    rintro e w7 ⟨A7, n7, c7, rfl, ho7, hb7, hc7, hm7⟩
    have T7 := Lib.hid (below_next T6.out hb7)
    have X7 := Lib.hid (X6.out.keep hb7 hz6)
    have hz7 : w.heap.size < w7.heap.size := by have := hb7.size; omega
    obtain ⟨rfl, hr7⟩ := own_strs ho7
    have RQ := Lib.hid hr7
    have R37 := Lib.hid (R36.out.next hb7)
    have R47 := Lib.hid (R46.out.next hb7)
    clear ho7 hr7 hm7 R36 R46
    clear hb7 X6 T6 b0 b1 b2 b3 b4
    go_wp2_with fail
    refine (readsBegun_any _).mono ?_
    rintro e wb ⟨rfl, hbb⟩
    have Tb := Lib.hid (below_next T7.out hbb)
    have S1 := Lib.hid (samePages_any A3 none 0 0 c3 0 [] [] wb (R37.out.next hbb) Rd.none_ (by omega) (by omega))
    have R4b := Lib.hid (R47.out.next hbb)
    have RQb := Lib.hid (RQ.out.next hbb)
    clear hbb
    go_wp2_with fail
    refine S1.out.mono ?_
    rintro e wc ⟨rfl, hbc⟩
    have S2 := Lib.hid (samePages_any A4 A7 _ _ c4 c7 pv pv wc (R4b.out.next hbc) (RQb.out.next hbc) HLP.out HLP.out)
    have Tc := Lib.hid (below_next Tb.out hbc)
    clear hbc
    go_wp2_with fail
    refine S2.out.mono ?_
    rintro e wd ⟨rfl, hbd⟩
    go_wp2_with fail
    go_ret
    exact ⟨by simp, below_next Tc.out hbd⟩

theorem flat_all {m : Img} (he : checkErr m = 0) (x : Int) : pagesErr (allM m) = 0 ∧ ((allM m).length : Int) = m.guest ∧ flatReadE (allM m) x = lookE m x ∧ flatReadV (allM m) x = readV m x ∧ ∀ s ∈ allM m, s.size ≤ 140737488351232 := by
  obtain ⟨g0, g16, hrf⟩ := own_facts he
  obtain ⟨g, hgm⟩ := Int.eq_ofNat_of_zero_le g0
  have hal : allM m = allV m.slots m.root g := by rw [allM_ok he, hgm, Int.toNat_natCast]
  have hp : pagesErr (allM m) = 0 := by rw [hal]; exact allV_right he m.root (by omega)
  have hl : (allM m).length = g := by rw [hal, allV_len]
  have h4 : flatReadE (allM m) x = lookE m x := by
    unfold flatReadE lookE
    rw [if_pos hp, hl, hgm, if_neg (fun hh : checkErr m ≠ 0 => hh he)]
  refine ⟨hp, by omega, h4, ?_, ?_⟩
  · unfold flatReadV readV
    rw [h4]
    split
    · rename_i h0
      obtain ⟨_, hx0, hx1⟩ := look_is h0
      rw [hal, List.getD_eq_getElem?_getD, allV_at _ _ (by omega)]; rfl
    · rfl
  · intro s hs
    rw [hal] at hs
    unfold allV at hs
    obtain ⟨n, _, rfl⟩ := List.mem_map.1 hs
    rw [page_size (entry_ok he m.root n)]; omega

set_option maxRecDepth 100000 in
set_option maxHeartbeats 8000000 in
theorem law_readsTrue (v : IV) (m : Img) (x : Int) (w : World) (h : ImgR w w.heap.size v m) :
    Calls Try.prog 10 #[imgV m v, .int .i64 x] w fun e w' => e = .returned (.bool true) ∧ Below w.heap.size w w' := by
  have KA' := fun W (hb : Below w.heap.size w W) => tAll_any v m W (h.next hb)
  by_cases he : checkErr m = 0
  · have KR' := fun W (hb : Below w.heap.size w W) => tread_any v m x W (h.next hb)
    obtain ⟨f1, f2, f3, f4, f5⟩ := flat_all he x
    have hl : (allM m).length ≤ 16 := (pagesErr_len f1).1
    rw [he] at KA'
    rw [← f3, ← f4] at KR'
    generalize allM m = al at *
    have KF := Lib.hid (fun A c W (hs : StrsR W W.heap.size A al.length al) => fread_any A al.length c al x W hs (by omega))
    have KC := Lib.hid (fun A c W (hs : StrsR W W.heap.size A al.length al) => pcheck_any A al.length c al W hs (by omega))
    rw [f1] at KC
    have F5 := Lib.hid f5
    generalize flatReadE al x = fe at KR' KF
    generalize flatReadV al x = fv at KR' KF
    have KA := Lib.hid KA'
    have KR := Lib.hid KR'
    clear KA' KR' h he f1 f3 f4 f5
    obtain ⟨rA, rn, rc, sA, sn, sc, fA, fn, fc, pA, pn, pc⟩ := v
    dsimp only [imgV] at KR KA ⊢
    rw [← f2] at KR KA ⊢
    have HB1 := below1 w (.cells #[.int .i64 (al.length : Int), .slice rA rn rc, .slice sA sn sc, .slice fA fn fc, .slice pA pn pc] 26)
    have HX := Lib.hid (Box.new w (al.length : Int) ⟨rA, rn, rc, sA, sn, sc, fA, fn, fc, pA, pn, pc⟩ 26)
    have hz : w.heap.size < (w.alloc (.cells #[.int .i64 (al.length : Int), .slice rA rn rc, .slice sA sn sc, .slice fA fn fc, .slice pA pn pc] 26)).heap.size := by simp
    clear f2
    generalize hn : al.length = ln at *
    have HN := Lib.hid hn
    clear hn
    go_enter Try.func10, Try.ntmps10
    go_wp2_with fail
    refine (KA.out _ HB1).mono ?_
    rintro e w2 ⟨A2, n2, c2, rfl, ho2, hb2, hc2, hm2⟩
    obtain ⟨hn2, hr2⟩ := own_strs ho2
    rw [HN.out] at hn2
    subst hn2
    have R2 := Lib.hid (show StrsR w2 w2.heap.size A2 n2 al from ⟨hr2, F5.out⟩)
    have T2 := Lib.hid (below_next HB1 hb2)
    have X2 := Lib.hid (HX.out.keep hb2 hz)
    have hz2 : w.heap.size < w2.heap.size := by have := hb2.size; omega
    have KC2 := Lib.hid (KC.out A2 c2 w2 R2.out)
    obtain ⟨b0, b1, b2, b3, b4⟩ := X2.out
    dsimp only at b0 b1 b2 b3 b4
    clear ho2 hr2 hm2 hb2 HX KC hz HB1
    go_wp2_with (go_at_call 38; refine KC2.out.mono ?_; rintro e w3 ⟨rfl, rfl⟩)
    refine (KR.out _ T2.out).mono ?_
    rintro e w3 ⟨rfl, hb3⟩
    have T3 := Lib.hid (below_next T2.out hb3)
    have KF3 := Lib.hid (KF.out A2 c2 w3 (R2.out.next hb3))
    clear b0 b1 b2 b3 b4 hb3 KF KR KC2
    go_wp2_with fail
    refine KF3.out.mono ?_
    rintro e w4 ⟨rfl, rfl⟩
    go_wp2_with fail
    refine (readsBegun_any _).mono ?_
    rintro e wb ⟨rfl, hbb⟩
    go_wp2_with fail
    go_ret
    exact ⟨by simp, below_next T3.out hbb⟩
  · have lz : (checkErr m != 0) = true := by simpa using he
    rw [allM_no he] at KA'
    generalize checkErr m = ce at KA' lz
    have KA := Lib.hid KA'
    clear KA' h he
    obtain ⟨rA, rn, rc, sA, sn, sc, fA, fn, fc, pA, pn, pc⟩ := v
    dsimp only [imgV] at KA ⊢
    have HB1 := below1 w (.cells #[.int .i64 m.guest, .slice rA rn rc, .slice sA sn sc, .slice fA fn fc, .slice pA pn pc] 26)
    go_enter Try.func10, Try.ntmps10
    go_wp2_with fail
    refine (KA.out _ HB1).mono ?_
    rintro e w2 ⟨A2, n2, c2, rfl, ho2, hb2, hc2, hm2⟩
    have T2 := Lib.hid (below_next HB1 hb2)
    clear ho2 hm2 hb2
    go_wp2_with fail
    refine (readsBegun_any _).mono ?_
    rintro e wb ⟨rfl, hbb⟩
    go_wp2_with fail
    go_ret
    exact ⟨rfl, below_next T2.out hbb⟩
end Go.Proofs.Ytnjjnioilbnnpaa
