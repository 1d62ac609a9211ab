/- The law TreeTrue, walked. Conditions: the image is read below the heap's size. -/
import Derived.Test.YtnjjnioilbnnpaaTreeLaws
import Derived.Test.YtnjjnioilbnnpaaPureA
import Derived.StillTailTactics
namespace Go.Proofs.Ytnjjnioilbnnpaa
open Go.RowKit Sl

theorem choose_any (x n : Int) (w : World) (hx : -9223372036854775808 ≤ x) (hx' : x ≤ 9223372036854775807) (hn : 0 < n) (hn' : n ≤ 4611686018427387903) : Calls Try.prog 22 #[.int .i64 x, .int .i64 n] w
    fun e w' => e = .returned (.int .i64 (chooseOf x n)) ∧ w = w' := by
  by_cases h : x < 0
  · have hv := Lib.hid (show chooseOf x n = (-(x + 1)) % n from by unfold chooseOf; rw [if_pos h])
    have g1 : -9223372036854775808 ≤ x + 1 := by omega
    have g2 : 0 ≤ -(x + 1) := by omega
    go_enter Try.func22, Try.ntmps22
    go_wp2
    go_ret
    exact ⟨ret_int (by rw [hv.out]; rw [← Int.neg_tmod, Int.tmod_eq_emod_of_nonneg g2]), rfl⟩
  · have hv := Lib.hid (show chooseOf x n = x % n from by unfold chooseOf; rw [if_neg h])
    have g2 : 0 ≤ x := by omega
    go_enter Try.func22, Try.ntmps22
    go_wp2
    go_ret
    exact ⟨ret_int (by rw [hv.out]), rfl⟩

set_option maxRecDepth 100000 in
set_option maxHeartbeats 4000000 in
theorem law_treeTrue (v : IV) (m : Img) (x : Int) (w : World) (h : ImgR w w.heap.size v m) (i1 : -9223372036854775808 ≤ x) (i2 : x ≤ 9223372036854775807) :
    Calls Try.prog 6 #[.agg #[.int .i64 m.guest, .slice v.rA v.rn v.rc, .slice v.sA v.sn v.sc, .slice v.fA v.fn v.fc, .slice v.pA v.pn v.pc], .int .i64 x] w fun e w' => e = .returned (.bool true) ∧ Below w.heap.size w w' := by
  obtain ⟨rA, rn, rc, sA, sn, sc, fA, fn, fc, pA, pn, pc⟩ := v
  dsimp only
  have HB1 := below1 w (.cells #[.int .i64 m.guest, .slice rA rn rc, .slice sA sn sc, .slice fA fn fc, .slice pA pn pc] 26)
  have HX := Lib.hid (Box.new w m.guest ⟨rA, rn, rc, sA, sn, sc, fA, fn, fc, pA, pn, pc⟩ 26)
  have hzx : w.heap.size < (w.alloc (.cells #[.int .i64 m.guest, .slice rA rn rc, .slice sA sn sc, .slice fA fn fc, .slice pA pn pc] 26)).heap.size := by simp
  have HZX := Lib.hid hzx
  clear hzx
  have K1' := fun W (hb : Below w.heap.size w W) => tcheck_any ⟨rA, rn, rc, sA, sn, sc, fA, fn, fc, pA, pn, pc⟩ m W (h.next hb)
  by_cases he : checkErr m = 0
  · have hsh := (check_is he).1
    have K2' := fun W (hb : Below w.heap.size w W) => tcounts_any ⟨rA, rn, rc, sA, sn, sc, fA, fn, fc, pA, pn, pc⟩ m W (h.next hb)
    have K3 := Lib.hid (fun (y : Int) W (hb : Below w.heap.size w W) => tlook_any ⟨rA, rn, rc, sA, sn, sc, fA, fn, fc, pA, pn, pc⟩ m y W (h.next hb))
    have hcv : cntV m = countsOf m := by unfold cntV; rw [if_pos hsh]
    rw [hsh, hcv] at K2'
    rw [he] at K1'
    have K1 := Lib.hid K1'
    have K2 := Lib.hid K2'
    have HI := Lib.hid h
    have hsl : m.slots.length = sn := h.slen
    have hfl : m.refs.length = fn := h.flen
    have hcl := countsOf_len m
    have hcb := shape_cbd hsh
    have hsn : sn ≤ 40 := by have := hcb.slots; omega
    have hsn1 : 1 ≤ sn := by have := hcb.one; omega
    obtain rfl : fn = sn := by have := (sh_is hsh).1.refs; omega
    have hgo := (sh_is hsh).2.2.1
    unfold guestsOk at hgo
    rw [Bool.and_eq_true] at hgo
    obtain ⟨gg0, gg16⟩ := guestOk_both hgo.1
    have HSL := Lib.hid hsl
    have HCL := Lib.hid (hcl.trans hsl)
    have HE := Lib.hid he
    clear K1' K2' h hsh hcv hsl hfl hcl hcb hgo he
    go_enter Try.func6, Try.ntmps6
    go_wp2_with fail
    refine (K1.out _ HB1).mono ?_
    rintro e w1 ⟨rfl, hb1⟩
    have HBa := Lib.hid (below_next HB1 hb1)
    have HXa := Lib.hid (HX.out.keep hb1 HZX.out)
    have hz1 : w.heap.size < w1.heap.size := by have := HZX.out; have := hb1.size; omega
    clear hb1 HX HZX HB1
    obtain ⟨b0, b1, b2, b3, b4⟩ := HXa.out
    dsimp only at b0 b1 b2 b3 b4
    go_wp2_with fail
    refine (K2.out _ HBa.out).mono ?_
    rintro e w2 ⟨A2, n2, c2, rfl, ho2, hb2, hc2, hm2⟩
    obtain rfl : n2 = fn := by have := ho2.1; simp [ints] at this; have := HCL.out; omega
    have HR2 := Lib.hid (Rd.of_own ho2)
    have HBb := Lib.hid (below_next HBa.out hb2)
    have HXb := Lib.hid (HXa.out.keep hb2 hz1)
    have hz2 : w.heap.size < w2.heap.size := by have := hb2.size; omega
    clear b0 b1 b2 b3 b4 hb2 ho2 HXa HBa hz1
    obtain ⟨b0, b1, b2, b3, b4⟩ := HXb.out
    dsimp only at b0 b1 b2 b3 b4
    go_wp2_with fail
    go_loop [7, 8] (fun t i => ∃ k : Nat, k ≤ n2 ∧ i = .int .i64 k ∧ t = .int .i64 (tabs (m.slots.take k) : Nat)) (fun _ i => n2 - (intOf i).toNat)
    case atStart => exact ⟨0, Nat.zero_le _, rfl, rfl⟩
    case round =>
      obtain ⟨k, hk, rfl, rfl⟩ := hrel
      have ht40 : tabs (m.slots.take k) ≤ 40 := by have := tabs_le (m.slots.take k); rw [List.length_take] at this; omega
      by_cases hlt : k < n2
      · obtain ⟨b, o, s, tA, tn, tc, rfl, hb, hx, c0, c1, c2', hsv⟩ := HI.out.slots.at_ (k := k) hlt
        have c0' := (HBb.out.cell (p := ⟨b, o + k * 3, none⟩) hb).trans c0
        have HT := Lib.hid (tabs_snoc m.slots k s hx)
        clear hx c0 c1 c2' hsv
        generalize tabs (m.slots.take k) = tt at *
        cases hk2 : (s.kind == 2)
        · go_wp2_with fail
          go_round
          case rel => exact ⟨k + 1, by omega, by go_num, by rw [HT.out, if_neg (by simpa using hk2)]; go_num⟩
          case measure => simp [intOf]; omega
        · go_wp2_with fail
          go_round
          case rel => exact ⟨k + 1, by omega, by go_num, by rw [HT.out, if_pos (by simpa using hk2)]; go_num⟩
          case measure => simp [intOf]; omega
      · have hall : m.slots.take k = m.slots := List.take_of_length_le (by have := HSL.out; omega)
        rw [hall] at ht40 ⊢
        clear hall
        generalize hT : tabs m.slots = T at ht40 ⊢
        have HT := Lib.hid hT
        clear hT
        go_wp2_with fail
        clear b0 b1 b2 b3 b4
        go_loopw [9] (fun i wr => ∃ k : Nat, k ≤ n2 ∧ i = .int .i64 k ∧ Below w2.heap.size w2 wr) (fun i _ => n2 - (intOf i).toNat)
        case atStart => exact ⟨0, Nat.zero_le _, rfl, Below.refl _ _⟩
        case round =>
          obtain ⟨k, hk, rfl, hbw⟩ := hrel
          obtain ⟨b0, b1, b2, b3, b4⟩ := HXb.out.keep hbw hz2
          dsimp only at b0 b1 b2 b3 b4
          have HBr := Lib.hid (below_next HBb.out hbw)
          by_cases hlt : k < n2
          · obtain ⟨b5, o5, c, rfl, hb5, hx5, e5⟩ := HR2.out.at1 hlt
            obtain ⟨b6, o6, r, rfl, hb6, hx6, e6⟩ := HI.out.refs.at1 hlt
            obtain ⟨b7, o7, s, tA, tn, tc, rfl, hb7, hx7, d0, d1, d2, hsv⟩ := HI.out.slots.at_ (k := k) hlt
            obtain ⟨rfl, hc0, hciff⟩ := ref_is HE.out hx6 hx5 hx7
            have e5' := (hbw.cell (p := ⟨b5, o5 + k, none⟩) hb5).trans e5
            have e6' := (HBr.out.cell (p := ⟨b6, o6 + k, none⟩) hb6).trans e6
            have d0' := (HBr.out.cell (p := ⟨b7, o7 + k * 3, none⟩) hb7).trans d0
            have k0 : (0 : Int) ≤ (k : Int) := by omega
            have k1 : (k : Int) < (n2 : Int) := by omega
            have hpl := page_le HE.out hx7 hx5
            rw [HT.out] at hpl
            clear hx5 hx6 hx7 e5 e6 d0 d1 d2 hsv
            cases hk0 : (s.kind != 0)
            · have hk00 : s.kind = 0 := by simpa using hk0
              have hcz : r = 0 := hciff.2 hk00
              have hk1 : (s.kind == 1) = false := by rw [hk00]; rfl
              subst hcz
              clear hciff hpl hk00
              go_wp2_with fail
              go_quiet (fail)
              go_wp2_with fail
              go_roundw
              case rel => exact ⟨k + 1, by omega, by go_num, below_drewN hbw _⟩
              case measure => simp [intOf]; omega
            · have hk00 : s.kind ≠ 0 := by simpa using hk0
              have hcp : decide ((0 : Int) < r) = true := by
                have : r ≠ 0 := fun e => hk00 (hciff.1 e)
                simp; omega
              cases hk1 : (s.kind == 1)
              · clear hciff hpl hk00
                go_wp2_with fail
                go_quiet (fail)
                go_wp2_with fail
                go_roundw
                case rel => exact ⟨k + 1, by omega, by go_num, below_drewN hbw _⟩
                case measure => simp [intOf]; omega
              · have hle := hpl (by simpa using hk1)
                have hT1 : decide ((T : Int) * 4 < r) = false := by simp; omega
                have hT2 : IntKind.i64.wrap ((T : Int) * 4) = (T : Int) * 4 := IntWalk.i64_in _ (by omega)
                clear hciff hpl hk00 hle
                go_wp2_with fail
                go_quiet (fail)
                clear hT2
                go_wp2_with fail
                go_roundw
                case rel => exact ⟨k + 1, by omega, by go_num, below_drewN hbw _⟩
                case measure => simp [intOf]; omega
          · by_cases hg0 : m.guest = 0
            · have hg00 : (m.guest == 0) = true := by simpa using hg0
              clear hg0
              go_wp2_with fail
              refine (treeBegun_any _).mono ?_
              rintro e w5 ⟨rfl, hb5⟩
              go_wp2_with fail
              go_ret
              exact ⟨rfl, below_next HBr.out hb5⟩
            · have hg00 : (m.guest == 0) = false := by simpa using hg0
              have hg1 : 1 ≤ m.guest := by omega
              obtain ⟨q1, q2⟩ := chooseOf_in x m.guest (by omega)
              obtain ⟨n, hn⟩ := Int.eq_ofNat_of_zero_le q1
              have KC := fun W => choose_any x m.guest W i1 i2 (by omega) (by omega)
              rw [hn] at KC q2
              obtain ⟨l1, l2⟩ := look_ok HE.out q2
              obtain ⟨p1, p2⟩ := look_page HE.out n
              have KL := fun W (hb : Since wr W) => K3.out (n : Nat) W (below_next HBr.out hb.below)
              rw [l1, l2] at KL
              generalize entryOf m.slots m.root n = en at KL p1 p2
              have KCC := Lib.hid KC
              have KLL := Lib.hid KL
              have hzr : w.heap.size < wr.heap.size := by have := hbw.size; omega
              have hbd := Lib.hid hbw
              have P2 := Lib.hid p2
              clear KC KL q1 hn l1 l2 p2
              have hmax : max 1 m.guest = m.guest := by omega
              go_wp2_with fail
              go_region_held3 (fun w' => w'.cell? ⟨w.heap.size, 0, none⟩ = some (.int .i64 m.guest) ∧ w'.cell? ⟨w.heap.size, 1, none⟩ = some (.slice rA rn rc) ∧ w'.cell? ⟨w.heap.size, 2, none⟩ = some (.slice sA n2 sc) ∧ w'.cell? ⟨w.heap.size, 3, none⟩ = some (.slice fA n2 fc) ∧ w'.cell? ⟨w.heap.size, 4, none⟩ = some (.slice pA pn pc) ∧ Since wr w')
                (((repeat (refine img_keep2 hzr (by assumption) ?_)); refine ⟨?_, ?_, ?_, ?_, ?_, ?_⟩ <;> first | assumption | exact Since.start _ | exact Since.refl _))
                (first | (go_at_call 22; refine (KCC.out _).mono ?_; rintro e w6 ⟨rfl, rfl⟩) | (go_at_call 19; refine (KLL.out _ ?_).mono ?_; (first | assumption | exact Since.start _ | exact Since.refl _); rintro e w5 ⟨rfl, hb5⟩))
              have HB5 := Lib.hid (below_next (below_drewN HBr.out 1) hb5)
              have hbd1 : Below w2.heap.size w2 wr.drew := below_drewN hbd.out 1
              have hb25 := hbd1.trans (hb5.mono hbd1.size)
              have HX5 := Lib.hid (HXb.out.keep hb25 hz2)
              have hz5 : w.heap.size < w5.heap.size := by have := hb25.size; omega
              clear b0 b1 b2 b3 b4 hb25 hb5
              obtain ⟨b0, b1, b2, b3, b4⟩ := HX5.out
              dsimp only at b0 b1 b2 b3 b4
              by_cases hen : 0 < en
              · obtain ⟨k', s, rfl, hks, hkk⟩ := P2.out hen
                have hkl : k' < n2 := by have := (List.getElem?_eq_some_iff.1 hks).1; have := HSL.out; omega
                obtain ⟨b7, o7, s7, tA, tn, tc, rfl, hb7, hx7, d0, d1, d2, hsv⟩ := HI.out.slots.at_ (k := k') hkl
                rw [hks] at hx7
                injection hx7 with hx7
                subst hx7
                rw [hkk] at d0
                have HD0 := Lib.hid d0
                have e0 : (0 : Int) ≤ (k' : Int) := by omega
                have e1 : (k' : Int) < (n2 : Int) := by omega
                have e2 : (0 : Int) < (k' : Int) := by omega
                clear hks hkk d0 d1 d2 hsv
                go_wp2_with fail
                refine (treeBegun_any _).mono ?_
                rintro e w6 ⟨rfl, hb6⟩
                have HB6 := Lib.hid (below_next HB5.out hb6)
                have d0' := (HB6.out.cell (p := ⟨b7, o7 + k' * 3, none⟩) hb7).trans HD0.out
                clear b0 b1 b2 b3 b4
                obtain ⟨b0, b1, b2, b3, b4⟩ := HX5.out.keep hb6 hz5
                dsimp only at b0 b1 b2 b3 b4
                go_wp2_with fail
                go_ret
                exact ⟨by simp, HB6.out⟩
              · have e1 : en < (n2 : Int) := by omega
                have e2 : en ≤ 0 := by omega
                clear hen
                go_wp2_with fail
                refine (treeBegun_any _).mono ?_
                rintro e w6 ⟨rfl, hb6⟩
                have HB6 := Lib.hid (below_next HB5.out hb6)
                go_wp2_with fail
                go_ret
                exact ⟨by simp, HB6.out⟩
  · have he' : (checkErr m != 0) = true := by simpa using he
    generalize checkErr m = er at K1' he'
    have K1 := Lib.hid K1'
    clear K1' h he
    go_enter Try.func6, Try.ntmps6
    go_wp2_with fail
    refine (K1.out _ HB1).mono ?_
    rintro e w1 ⟨rfl, hb1⟩
    have HBa := below_next HB1 hb1
    go_wp2_with fail
    refine (treeBegun_any _).mono ?_
    rintro e w5 ⟨rfl, hb5⟩
    go_wp2_with fail
    go_ret
    exact ⟨rfl, below_next HBa hb5⟩
end Go.Proofs.Ytnjjnioilbnnpaa
