/- The reference's PastOf; the laws' readsBegun. Conditions: the image is read below the heap's size. -/
import Derived.Test.YtnjjnioilbnnpaaReads3
import Derived.Test.YtnjjnioilbnnpaaTreeBegun
namespace Go.Proofs.Ytnjjnioilbnnpaa
open Go.RowKit Sl

section
variable {wa W W' : World} {k b o o' : Nat} {a b' c d f u : Value}
theorem img_keep7 (hlt : k < wa.heap.size) (hb' : b < wa.heap.size) (hb : Below wa.heap.size W W')
    (h : W.cell? ⟨k, 0, none⟩ = some a ∧ W.cell? ⟨k, 1, none⟩ = some b' ∧ W.cell? ⟨k, 2, none⟩ = some c ∧ W.cell? ⟨k, 3, none⟩ = some d ∧ W.cell? ⟨k, 4, none⟩ = some f ∧ W.cell? ⟨b, o, none⟩ = some u ∧ Below wa.heap.size wa W) :
    W'.cell? ⟨k, 0, none⟩ = some a ∧ W'.cell? ⟨k, 1, none⟩ = some b' ∧ W'.cell? ⟨k, 2, none⟩ = some c ∧ W'.cell? ⟨k, 3, none⟩ = some d ∧ W'.cell? ⟨k, 4, none⟩ = some f ∧ W'.cell? ⟨b, o, none⟩ = some u ∧ Below wa.heap.size wa W' := by
  obtain ⟨h0, h1, h2, h3, h4, h5, h6⟩ := h
  exact ⟨(hb.cell (by simp; omega)).trans h0, (hb.cell (by simp; omega)).trans h1, (hb.cell (by simp; omega)).trans h2, (hb.cell (by simp; omega)).trans h3, (hb.cell (by simp; omega)).trans h4, (hb.cell (by simp; omega)).trans h5, h6.trans hb⟩
theorem img_keep7N (hlt : k < wa.heap.size) (hb' : b < wa.heap.size) (hb : Below W.heap.size W W')
    (h : W.cell? ⟨k, 0, none⟩ = some a ∧ W.cell? ⟨k, 1, none⟩ = some b' ∧ W.cell? ⟨k, 2, none⟩ = some c ∧ W.cell? ⟨k, 3, none⟩ = some d ∧ W.cell? ⟨k, 4, none⟩ = some f ∧ W.cell? ⟨b, o, none⟩ = some u ∧ Below wa.heap.size wa W) :
    W'.cell? ⟨k, 0, none⟩ = some a ∧ W'.cell? ⟨k, 1, none⟩ = some b' ∧ W'.cell? ⟨k, 2, none⟩ = some c ∧ W'.cell? ⟨k, 3, none⟩ = some d ∧ W'.cell? ⟨k, 4, none⟩ = some f ∧ W'.cell? ⟨b, o, none⟩ = some u ∧ Below wa.heap.size wa W' :=
  img_keep7 hlt hb' (hb.mono h.2.2.2.2.2.2.size) h
theorem img_keep7A (hlt : k < wa.heap.size) (hb' : b < wa.heap.size) (ob : Obj)
    (h : W.cell? ⟨k, 0, none⟩ = some a ∧ W.cell? ⟨k, 1, none⟩ = some b' ∧ W.cell? ⟨k, 2, none⟩ = some c ∧ W.cell? ⟨k, 3, none⟩ = some d ∧ W.cell? ⟨k, 4, none⟩ = some f ∧ W.cell? ⟨b, o, none⟩ = some u ∧ Below wa.heap.size wa W) :
    (W.alloc ob).cell? ⟨k, 0, none⟩ = some a ∧ (W.alloc ob).cell? ⟨k, 1, none⟩ = some b' ∧ (W.alloc ob).cell? ⟨k, 2, none⟩ = some c ∧ (W.alloc ob).cell? ⟨k, 3, none⟩ = some d ∧ (W.alloc ob).cell? ⟨k, 4, none⟩ = some f ∧ (W.alloc ob).cell? ⟨b, o, none⟩ = some u ∧ Below wa.heap.size wa (W.alloc ob) :=
  img_keep7N hlt hb' (below1 W ob) h
end

set_option maxRecDepth 100000 in
set_option maxHeartbeats 4000000 in
theorem rPast_any (v : IV) (m : Img) (name : ByteArray) (w : World) (h : ImgR w w.heap.size v m) :
    Calls Try.prog 35 #[imgV m v, .string name] w (OwnPair w.heap.size 9 1 ((pastV m name).map Value.string) (pastE m name) w) := by
  obtain ⟨i0, hi0, hz0, hz1, hz2⟩ := info_parts Try.infoStr
  have K1' := fun W (hb : Below w.heap.size w W) => rcheckimg_any v m W (h.next hb)
  by_cases he : checkErr m = 0
  · rw [he] at K1'
    have K1 := Lib.hid K1'
    have K2 := Lib.hid (fun W (hb : Below w.heap.size w W) => rsnapAt_any v m name W (h.next hb))
    cases hn : m.snaps.any (named name)
    · obtain ⟨r1, r2, r3⟩ := past_none he hn
      have R := Lib.hid (And.intro r1 r2)
      rw [r3] at K2
      obtain ⟨rA, rn, rc, sA, sn, sc, fA, fn, fc, pA, pn, pc⟩ := v
      dsimp only [imgV] at K1 K2 ⊢
      have HB1 := (below1 w (.cells #[.int .i64 m.guest, .slice rA rn rc, .slice sA sn sc, .slice fA fn fc, .slice pA pn pc] 26))
      have HX := Lib.hid (Box.new w m.guest ⟨rA, rn, rc, sA, sn, sc, fA, fn, fc, pA, pn, pc⟩ 26)
      have hz : w.heap.size < (w.alloc (.cells #[.int .i64 m.guest, .slice rA rn rc, .slice sA sn sc, .slice fA fn fc, .slice pA pn pc] 26)).heap.size := by simp
      clear K1' h he hn r1 r2 r3
      go_enter Try.func35, Try.ntmps35
      go_wp2_with fail
      refine (K1.out _ HB1).mono ?_
      rintro e w1 ⟨rfl, hb1⟩
      have HB := below_next HB1 hb1
      obtain ⟨b0, b1, b2, b3, b4⟩ := HX.out.keep hb1 hz
      dsimp only at b0 b1 b2 b3 b4
      go_wp2_with fail
      refine (K2.out _ HB).mono ?_
      rintro e w2 ⟨rfl, hb2⟩
      go_wp2_with fail
      go_ret2
      exact OwnPair.mk_nil (by rw [R.out.2]; rfl) R.out.1 (below_next HB hb2)
    · obtain ⟨k, s, hk, hs, _, r3, r1, r2⟩ := past_ok he hn
      obtain ⟨g0, g16, hrf⟩ := snap_facts he hs
      obtain ⟨g, hgm⟩ := Int.eq_ofNat_of_zero_le g0
      rw [hgm, Int.toNat_natCast] at r2
      have R := Lib.hid (And.intro r1 r2)
      rw [r3] at K2
      have HPL := h.plen
      have HI := Lib.hid h.snaps
      have hg16 : g ≤ 16 := by omega
      have KP := Lib.hid (fun i W (hb : Below w.heap.size w W) => rpage_any v m _ W (h.next hb) (entry_ok he s.root i))
      have KE' := fun A n c i (hi : i < g) W (hb : Below w.heap.size w W) (hr : Rd w w.heap.size 1 A n (ints s.root)) (hn : n ≤ 4611686018427387903) => look_any v m A n c s.root i W (h.next hb) (hr.next hb) (entOk_of he hrf (by omega)) hn
      obtain ⟨rA, rn, rc, sA, sn, sc, fA, fn, fc, pA, pn, pc⟩ := v
      dsimp only [imgV] at K1 K2 KP KE' HPL HI ⊢
      obtain ⟨b, o, s2, tA, tn, tc, rfl, hb, hx, d0, d1, d2, hsv⟩ := HI.out.at_ (k := k) (by omega)
      rw [hs] at hx
      injection hx with hx
      subst hx
      have hkl : k < pn := by omega
      have KE := Lib.hid (fun i (hi : i < g) W (hb : Below w.heap.size w W) => KE' tA tn tc i hi W hb hsv.root hsv.cap.1)
      rw [hgm] at d1
      have HD1 := Lib.hid d1
      have HD2 := Lib.hid d2
      have HB1 := (below1 w (.cells #[.int .i64 m.guest, .slice rA rn rc, .slice sA sn sc, .slice fA fn fc, .slice (some ⟨b, o, none⟩) pn pc] 26))
      have HX := Lib.hid (Box.new w m.guest ⟨rA, rn, rc, sA, sn, sc, fA, fn, fc, some ⟨b, o, none⟩, pn, pc⟩ 26)
      have hz : w.heap.size < (w.alloc (.cells #[.int .i64 m.guest, .slice rA rn rc, .slice sA sn sc, .slice fA fn fc, .slice (some ⟨b, o, none⟩) pn pc] 26)).heap.size := by simp
      have e0 : (0 : Int) ≤ (k : Int) := by omega
      have e1 : (k : Int) < (pn : Int) := by omega
      clear K1' h he hn r1 r2 r3 hs KE' HI d0 d1 d2 hsv hrf g0 g16 hgm HPL hk
      go_enter Try.func35, Try.ntmps35
      go_wp2_with fail
      refine (K1.out _ HB1).mono ?_
      rintro e w1 ⟨rfl, hb1⟩
      have HB := below_next HB1 hb1
      have hz1 : w.heap.size < w1.heap.size := by have := hb1.size; omega
      have HX1 := Lib.hid (HX.out.keep hb1 hz)
      obtain ⟨b0, b1, b2, b3, b4⟩ := HX1.out
      dsimp only at b0 b1 b2 b3 b4
      go_wp2_with fail
      refine (K2.out _ HB).mono ?_
      rintro e wa ⟨rfl, hb2⟩
      have HBB := below_next HB hb2
      have HXA := Lib.hid (HX1.out.keep hb2 hz1)
      have hza : w.heap.size < wa.heap.size := by have := hb2.size; omega
      have hba : b < wa.heap.size := by omega
      clear b0 b1 b2 b3 b4 hb2 hb1 HX1 HX HB HB1 hz hz1
      go_wp2_with fail
      go_loopw [8, 9] (fun ol i wr => ∃ (j c' : Nat) (A' : Option Addr), j ≤ g ∧ i = .int .i64 j ∧ ol = .slice A' j c' ∧ wr.ownsRow wa.heap.size 9 1 (.slice A' j c') j ((allV m.slots s.root j).map Value.string) ∧ Below wa.heap.size wa wr ∧ j ≤ c' ∧ c' ≤ maxLen) (fun _ i _ => g - (intOf i).toNat)
      case atStart => exact ⟨0, 0, none, Nat.zero_le _, rfl, rfl, World.ownsRow_nil _ _ _ _, Below.refl _ _, Nat.le_refl _, by simp⟩
      case round =>
        obtain ⟨j, c', A', hjg, rfl, rfl, ho, hbw, hc1, hc2⟩ := hrel
        have HO := Lib.hid ho
        clear ho
        have HBr := below_next HBB hbw
        obtain ⟨b0, b1, b2, b3, b4⟩ := HXA.out.keep hbw hza
        dsimp only at b0 b1 b2 b3 b4
        have d1' := (HBr.cell (p := ⟨b, o + k * 3 + 1, none⟩) hb).trans HD1.out
        have d2' := (HBr.cell (p := ⟨b, o + k * 3 + 2, none⟩) hb).trans HD2.out
        by_cases hlt : j < g
        · have K3 := Lib.hid (KE.out j hlt)
          have K4 := Lib.hid (KP.out j)
          have HG := Lib.hid (allV_succ m.slots s.root j)
          generalize entryOf m.slots s.root j = en at K3 K4 HG
          generalize pageV m.slots en = pg at K4 HG
          go_wp2_with fail
          have HOD : Hid (wr.drew.ownsRow wa.heap.size 9 1 (.slice A' j c') j ((allV m.slots s.root j).map Value.string)) := Lib.hid HO.out
          have HBd : Hid (Below wa.heap.size wa wr.drew) := Lib.hid hbw.drew
          have HBD : Hid (Below w.heap.size w wr.drew) := Lib.hid HBr.drew
          clear d1'
          go_region_held3 (fun w' => w'.cell? ⟨w.heap.size, 0, none⟩ = some (.int .i64 m.guest) ∧ w'.cell? ⟨w.heap.size, 1, none⟩ = some (.slice rA rn rc) ∧ w'.cell? ⟨w.heap.size, 2, none⟩ = some (.slice sA sn sc) ∧ w'.cell? ⟨w.heap.size, 3, none⟩ = some (.slice fA fn fc) ∧ w'.cell? ⟨w.heap.size, 4, none⟩ = some (.slice (some ⟨b, o, none⟩) pn pc) ∧ w'.cell? ⟨b, o + k * 3 + 2, none⟩ = some (.slice tA tn tc) ∧ Below wa.heap.size wa w')
            (first | (refine ⟨?_, ?_, ?_, ?_, ?_, ?_, ?_⟩ <;> first | assumption | exact HBd.out) | (apply img_keep7N hza hba hb6; apply img_keep7N hza hba hb5; (refine ⟨?_, ?_, ?_, ?_, ?_, ?_, ?_⟩ <;> first | assumption | exact HBd.out)) | (apply img_keep7A hza hba; apply img_keep7N hza hba hb6; apply img_keep7N hza hba hb5; (refine ⟨?_, ?_, ?_, ?_, ?_, ?_, ?_⟩ <;> first | assumption | exact HBd.out)) | (apply img_keep7 hza hba q3; apply img_keep7N hza hba hb6; apply img_keep7N hza hba hb5; (refine ⟨?_, ?_, ?_, ?_, ?_, ?_, ?_⟩ <;> first | assumption | exact HBd.out)) | (apply img_keep7N hza hba hb5; (refine ⟨?_, ?_, ?_, ?_, ?_, ?_, ?_⟩ <;> first | assumption | exact HBd.out)) | (apply img_keep7A hza hba; apply img_keep7N hza hba hb5; (refine ⟨?_, ?_, ?_, ?_, ?_, ?_, ?_⟩ <;> first | assumption | exact HBd.out)) | (apply img_keep7 hza hba q3; apply img_keep7N hza hba hb5; (refine ⟨?_, ?_, ?_, ?_, ?_, ?_, ?_⟩ <;> first | assumption | exact HBd.out)))
            (first | (go_at_call 55; refine (K3.out _ HBD.out).mono ?_; rintro e w5 ⟨rfl, hb5⟩) | (go_at_call 63; refine (K4.out _ (below_next HBD.out hb5)).mono ?_; rintro e w6 ⟨rfl, hb6⟩) | (refine step_app1 rfl _ _ _ _ rfl rfl wa.heap.size 9 i0 _ 1 16 Try.underlying53 hi0 hz0 hz1 hz2 rfl (by omega) _ _ _ rfl (own_below (own_below HOD.out hb5) hb6) #[.string pg] rfl rfl (by intro u hu; simp at hu; subst hu; rfl) (by omega) (by unfold maxLen; omega) (Nat.le_trans HBd.out.size (Nat.le_trans hb5.size hb6.size)) ?_; intro A2 c2 w4 q2 q3 q4 q5))
          have HO2 := Lib.hid q2
          have hbw4 := ((HBd.out.trans (hb5.mono HBd.out.size)).trans (hb6.mono (Nat.le_trans HBd.out.size hb5.size))).trans q3
          clear q2 hb5 hb6 q3 b0 b1 b2 b3 b4 d2'
          go_wp2_with fail
          go_roundw
          case rel => exact ⟨j + 1, c2, A2, by omega, by go_num, rfl, by rw [HG.out, List.map_append]; exact HO2.out, hbw4, q4, q5⟩
          case measure => simp [intOf]; omega
        · obtain rfl : j = g := by omega
          go_wp2_with fail
          go_ret2
          exact OwnRes.pair (own_base HO.out HBB.size) (below_next HBB hbw) hc1 hc2 (by rw [R.out.2]) R.out.1
  · obtain ⟨r1, r2⟩ := past_no (name := name) he
    have R := Lib.hid (And.intro r1 r2)
    have lz : (checkErr m != 0) = true := by simpa using he
    generalize checkErr m = er at *
    have K1 := Lib.hid K1'
    obtain ⟨rA, rn, rc, sA, sn, sc, fA, fn, fc, pA, pn, pc⟩ := v
    dsimp only [imgV] at K1 ⊢
    have HB1 := below1 w (.cells #[.int .i64 m.guest, .slice rA rn rc, .slice sA sn sc, .slice fA fn fc, .slice pA pn pc] 26)
    clear K1' h he r1 r2
    go_enter Try.func35, Try.ntmps35
    go_wp2_with fail
    refine (K1.out _ HB1).mono ?_
    rintro e w1 ⟨rfl, hb1⟩
    go_wp2_with fail
    go_ret2
    exact OwnPair.mk_nil (by rw [R.out.2]; rfl) R.out.1 (below_next HB1 hb1)
end Go.Proofs.Ytnjjnioilbnnpaa
