/- The texts Reads1, Reads2, Reads3, Reads4 in one. Conditions: as each says. -/
import Derived.Test.YtmdjoafbckphfaaGreatCheck
import Derived.Test.YtmdjoafbckphfaaGreatPureA
import Derived.Test.YtmdjoafbckphfaaGreatPages
import Derived.Test.YtmdjoafbckphfaaGreatMemA
import Derived.StillTailTactics
import Derived.Test.YtmdjoafbckphfaaGreatFlat
import Derived.Test.YtmdjoafbckphfaaGreatTreeBegun
-- Reads1: reads.page, reads.all, and the reference's pageOf, ReadOf, AllOf. Conditions: the image is read below the heap's size; entries are pages of it.
namespace Go.Proofs.YtmdjoafbckphfaaGreat
open Go.RowKit Sl

theorem ret_str {a b : ByteArray} (h : b = a) : Ending.returned (.string a) = .returned (.string b) := by rw [h]

set_option maxRecDepth 100000 in
set_option maxHeartbeats 400000 in
theorem page_any (v : IV) (m : Img) (e : Int) (w : World) (h : ImgR w w.heap.size v m) (he : PageOk m.slots e) :
    Calls Tryz.prog 47 #[.agg #[.int .i64 m.guest, .slice v.rA v.rn v.rc, .slice v.sA v.sn v.sc, .slice v.fA v.fn v.fc, .slice v.pA v.pn v.pc], .int .i64 e] w fun e' w' => e' = .returned (.string (pageV m.slots e)) ∧ Below w.heap.size w w' := by
  obtain ⟨rA, rn, rc, sA, sn, sc, fA, fn, fc, pA, pn, pc⟩ := v
  dsimp only
  have HB1 := below1 w (.cells #[.int .i64 m.guest, .slice rA rn rc, .slice sA sn sc, .slice fA fn fc, .slice pA pn pc] 27)
  by_cases h0 : e ≤ 0
  · have R := Lib.hid (pageV_no (l := m.slots) h0)
    clear h he
    go_enter Tryz.func47, Tryz.ntmps47
    go_wp2_with fail
    refine (zero_any _).mono ?_
    rintro e w1 ⟨rfl, hb1⟩
    go_wp2_with fail
    go_ret
    exact ⟨ret_str R.out, below_next HB1 hb1⟩
  · rcases he with he | ⟨k, s, rfl, hk, hs, _⟩
    · exact absurd he h0
    · have R := Lib.hid (pageV_at hs hk)
      have hkl : k < sn := by have := h.slen; have := (List.getElem?_eq_some_iff.1 hs).1; dsimp only at *; omega
      obtain ⟨b, o, s2, tA, tn, tc, rfl, hb, hx, d0, d1, d2, hsv⟩ := h.slots.at_ (k := k) hkl
      rw [hs] at hx
      injection hx with hx
      subst hx
      have d1' := (HB1.cell (p := ⟨b, o + k * 3 + 1, none⟩) hb).trans d1
      have e0 : (0 : Int) ≤ (k : Int) := by omega
      have e1 : (k : Int) < (sn : Int) := by omega
      have e2 : (0 : Int) < (k : Int) := by omega
      clear h hs d0 d1 d2 hsv h0
      go_enter Tryz.func47, Tryz.ntmps47
      go_wp2_with fail
      go_ret
      exact ⟨ret_str R.out, HB1⟩

set_option maxRecDepth 100000 in
set_option maxHeartbeats 400000 in
theorem rpage_any (v : IV) (m : Img) (e : Int) (w : World) (h : ImgR w w.heap.size v m) (he : PageOk m.slots e) :
    Calls Tryz.prog 54 #[.agg #[.int .i64 m.guest, .slice v.rA v.rn v.rc, .slice v.sA v.sn v.sc, .slice v.fA v.fn v.fc, .slice v.pA v.pn v.pc], .int .i64 e] w fun e' w' => e' = .returned (.string (pageV m.slots e)) ∧ Below w.heap.size w w' := by
  obtain ⟨rA, rn, rc, sA, sn, sc, fA, fn, fc, pA, pn, pc⟩ := v
  dsimp only
  have HB1 := below1 w (.cells #[.int .i64 m.guest, .slice rA rn rc, .slice sA sn sc, .slice fA fn fc, .slice pA pn pc] 27)
  by_cases h0 : e ≤ 0
  · have R := Lib.hid (pageV_no (l := m.slots) h0)
    clear h he
    go_enter Tryz.func54, Tryz.ntmps54
    go_wp2_with fail
    refine (rzero_any _).mono ?_
    rintro e w1 ⟨rfl, rfl⟩
    go_wp2_with fail
    go_ret
    exact ⟨ret_str R.out, HB1⟩
  · rcases he with he | ⟨k, s, rfl, hk, hs, _⟩
    · exact absurd he h0
    · have R := Lib.hid (pageV_at hs hk)
      have hkl : k < sn := by have := h.slen; have := (List.getElem?_eq_some_iff.1 hs).1; dsimp only at *; omega
      obtain ⟨b, o, s2, tA, tn, tc, rfl, hb, hx, d0, d1, d2, hsv⟩ := h.slots.at_ (k := k) hkl
      rw [hs] at hx
      injection hx with hx
      subst hx
      have d1' := (HB1.cell (p := ⟨b, o + k * 3 + 1, none⟩) hb).trans d1
      have e0 : (0 : Int) ≤ (k : Int) := by omega
      have e1 : (k : Int) < (sn : Int) := by omega
      have e2 : (0 : Int) < (k : Int) := by omega
      clear h hs d0 d1 d2 hsv h0
      go_enter Tryz.func54, Tryz.ntmps54
      go_wp2_with fail
      go_ret
      exact ⟨ret_str R.out, HB1⟩

set_option maxRecDepth 100000 in
set_option maxHeartbeats 1000000 in
theorem tall_any (v : IV) (m : Img) (g : Nat) (A : Option Addr) (n c : Nat) (root : List Int) (w : World) (h : ImgR w w.heap.size v m) (hr : Rd w w.heap.size 1 A n (ints root)) (hn : n ≤ 4611686018427387903) (hg : g ≤ 16)
    (hen : ∀ k, k < g → EntOk m.slots root k) (hp : ∀ k, PageOk m.slots (entryOf m.slots root k)) :
    Calls Tryz.prog 67 #[.agg #[.int .i64 m.guest, .slice v.rA v.rn v.rc, .slice v.sA v.sn v.sc, .slice v.fA v.fn v.fc, .slice v.pA v.pn v.pc], .int .i64 (g : Nat), .slice A n c] w (OwnRes w.heap.size 9 1 g ((allV m.slots root g).map Value.string) w) := by
  obtain ⟨i0, hi0, hz0, hz1, hz2⟩ := info_parts Tryz.infoStr
  have K1 := Lib.hid (fun k (hk : k < g) W (hb : Below w.heap.size w W) => entry_any v m A n c root k W (h.next hb) (hr.next hb) (hen k hk) hn)
  have K2 := Lib.hid (fun k W (hb : Below w.heap.size w W) => page_any v m _ W (h.next hb) (hp k))
  obtain ⟨rA, rn, rc, sA, sn, sc, fA, fn, fc, pA, pn, pc⟩ := v
  dsimp only at K1 K2 ⊢
  have HB1 := below1 w (.cells #[.int .i64 m.guest, .slice rA rn rc, .slice sA sn sc, .slice fA fn fc, .slice pA pn pc] 27)
  have HX := Lib.hid (Box.new w m.guest ⟨rA, rn, rc, sA, sn, sc, fA, fn, fc, pA, pn, pc⟩ 27)
  have hz : w.heap.size < (w.alloc (.cells #[.int .i64 m.guest, .slice rA rn rc, .slice sA sn sc, .slice fA fn fc, .slice pA pn pc] 27)).heap.size := by simp
  clear h hr hen hp
  go_enter Tryz.func67, Tryz.ntmps67
  go_wp2_with fail
  generalize hwa : w.alloc (.cells #[.int .i64 m.guest, .slice rA rn rc, .slice sA sn sc, .slice fA fn fc, .slice pA pn pc] 27) = wa at *
  have HWA := Lib.hid hwa
  clear hwa
  go_loopw [7, 10] (fun o i wr => ∃ (k c' : Nat) (A' : Option Addr), k ≤ g ∧ i = .int .i64 k ∧ o = .slice A' k c' ∧ wr.ownsRow wa.heap.size 9 1 (.slice A' k c') k ((allV m.slots root k).map Value.string) ∧ Below wa.heap.size wa wr ∧ k ≤ c' ∧ c' ≤ maxLen) (fun _ i _ => g - (intOf i).toNat)
  case atStart => exact ⟨0, 0, none, Nat.zero_le _, rfl, rfl, World.ownsRow_nil _ _ _ _, Below.refl _ _, Nat.le_refl _, by simp⟩
  case round =>
    obtain ⟨k, c', A', hkg, rfl, rfl, ho, hbw, hc1, hc2⟩ := hrel
    have HO := Lib.hid ho
    clear ho
    by_cases hlt : k < g
    · have HBr := below_next HB1 hbw
      obtain ⟨b0, b1, b2, b3, b4⟩ := HX.out.keep hbw hz
      dsimp only at b0 b1 b2 b3 b4
      have KE := Lib.hid (K1.out k hlt)
      have KP := Lib.hid (K2.out k)
      have HG := Lib.hid (allV_succ m.slots root k)
      generalize entryOf m.slots root k = en at KE KP HG
      generalize pageV m.slots en = pg at KP HG
      go_wp2_with fail
      have HOD : Hid (wr.drew.ownsRow wa.heap.size 9 1 (.slice A' k c') k ((allV m.slots root k).map Value.string)) := Lib.hid HO.out
      have HBd : Hid (Below wa.heap.size wa wr.drew) := Lib.hid hbw.drew
      have HBD : Hid (Below w.heap.size w wr.drew) := Lib.hid HBr.drew
      go_region_held3 (fun w' => w'.cell? ⟨w.heap.size, 0, none⟩ = some (.int .i64 m.guest) ∧ w'.cell? ⟨w.heap.size, 1, none⟩ = some (.slice rA rn rc) ∧ w'.cell? ⟨w.heap.size, 2, none⟩ = some (.slice sA sn sc) ∧ w'.cell? ⟨w.heap.size, 3, none⟩ = some (.slice fA fn fc) ∧ w'.cell? ⟨w.heap.size, 4, none⟩ = some (.slice pA pn pc) ∧ Below wa.heap.size wa w')
        (first | (refine ⟨?_, ?_, ?_, ?_, ?_, ?_⟩ <;> first | assumption | exact HBd.out) | (apply img_keepN hz hb6; apply img_keepN hz hb5; (refine ⟨?_, ?_, ?_, ?_, ?_, ?_⟩ <;> first | assumption | exact HBd.out)) | (apply img_keepA hz; apply img_keepN hz hb6; apply img_keepN hz hb5; (refine ⟨?_, ?_, ?_, ?_, ?_, ?_⟩ <;> first | assumption | exact HBd.out)) | (apply img_keepB hz q3; apply img_keepN hz hb6; apply img_keepN hz hb5; (refine ⟨?_, ?_, ?_, ?_, ?_, ?_⟩ <;> first | assumption | exact HBd.out)) | (apply img_keepN hz hb5; (refine ⟨?_, ?_, ?_, ?_, ?_, ?_⟩ <;> first | assumption | exact HBd.out)) | (apply img_keepA hz; apply img_keepN hz hb5; (refine ⟨?_, ?_, ?_, ?_, ?_, ?_⟩ <;> first | assumption | exact HBd.out)) | (apply img_keepB hz q3; apply img_keepN hz hb5; (refine ⟨?_, ?_, ?_, ?_, ?_, ?_⟩ <;> first | assumption | exact HBd.out)))
        (first | (go_at_call 46; refine (KE.out _ HBD.out).mono ?_; rintro e w5 ⟨rfl, hb5⟩) | (go_at_call 47; refine (KP.out _ (below_next HBD.out hb5)).mono ?_; rintro e w6 ⟨rfl, hb6⟩) | (refine step_app1 rfl _ _ _ _ rfl rfl wa.heap.size 9 i0 _ 1 16 Tryz.underlying22 hi0 hz0 hz1 hz2 rfl (by omega) _ _ _ rfl (own_below (own_below HOD.out hb5) hb6) #[.string pg] rfl rfl (by intro u hu; simp at hu; subst hu; rfl) (by omega) (by unfold maxLen; omega) (Nat.le_trans HBd.out.size (Nat.le_trans hb5.size hb6.size)) ?_; intro A2 c2 w4 q2 q3 q4 q5))
      have HO2 := Lib.hid q2
      have hbw4 := ((HBd.out.trans (hb5.mono HBd.out.size)).trans (hb6.mono (Nat.le_trans HBd.out.size hb5.size))).trans q3
      clear q2 hb5 hb6 q3 b0 b1 b2 b3 b4
      go_wp2_with fail
      go_roundw
      case rel => exact ⟨k + 1, c2, A2, by omega, by go_num, rfl, by rw [HG.out, List.map_append]; exact HO2.out, hbw4, q4, q5⟩
      case measure => simp [intOf]; omega
    · obtain rfl : k = g := by omega
      go_wp2_with fail
      go_ret
      exact ⟨A', c', rfl, ⟨HO.out.1, HO.out.2.imp id fun ⟨gg, cap, cur, h1, h2, h3⟩ => ⟨gg, cap, cur, h1, by omega, h3⟩⟩, below_next HB1 hbw, hc1, hc2⟩
end Go.Proofs.YtmdjoafbckphfaaGreat
-- Reads2: The reference's ReadOf, AllOf, snapAt, PastOf; reads.Read, All, Past. Conditions: the image is read below the heap's size.
namespace Go.Proofs.YtmdjoafbckphfaaGreat
open Go.RowKit Sl

/-- The image's five cells, as an argument. -/
abbrev imgV (m : Img) (v : IV) : Value := .agg #[.int .i64 m.guest, .slice v.rA v.rn v.rc, .slice v.sA v.sn v.sc, .slice v.fA v.fn v.fc, .slice v.pA v.pn v.pc]

set_option maxRecDepth 100000 in
set_option maxHeartbeats 400000 in
theorem rreadOf_any (v : IV) (m : Img) (k : Nat) (w : World) (h : ImgR w w.heap.size v m) (he : EntOk m.slots m.root k) (hp : PageOk m.slots (entryOf m.slots m.root k)) :
    Calls Tryz.prog 31 #[imgV m v, .int .i64 (k : Nat)] w fun e' w' => e' = .returned (.string (pageV m.slots (entryOf m.slots m.root k))) ∧ Below w.heap.size w w' := by
  have K1 := Lib.hid (fun W (hb : Below w.heap.size w W) => rlookOf_any v m k W (h.next hb) he)
  have K2 := Lib.hid (fun W (hb : Below w.heap.size w W) => rpage_any v m _ W (h.next hb) hp)
  obtain ⟨rA, rn, rc, sA, sn, sc, fA, fn, fc, pA, pn, pc⟩ := v
  dsimp only [imgV] at K1 K2 ⊢
  have HB1 := below1 w (.cells #[.int .i64 m.guest, .slice rA rn rc, .slice sA sn sc, .slice fA fn fc, .slice pA pn pc] 27)
  generalize entryOf m.slots m.root k = en at K1 K2
  clear h he hp
  go_enter Tryz.func31, Tryz.ntmps31
  go_wp2_with fail
  have hz : w.heap.size < (w.alloc (.cells #[.int .i64 m.guest, .slice rA rn rc, .slice sA sn sc, .slice fA fn fc, .slice pA pn pc] 27)).heap.size := by simp
  obtain ⟨b0, b1, b2, b3, b4⟩ := Box.new w m.guest ⟨rA, rn, rc, sA, sn, sc, fA, fn, fc, pA, pn, pc⟩ 27
  generalize w.alloc (.cells #[.int .i64 m.guest, .slice rA rn rc, .slice sA sn sc, .slice fA fn fc, .slice pA pn pc] 27) = wa at *
  have HBd : Hid (Below wa.heap.size wa wa.drew) := Lib.hid (Below.refl _ _).drew
  have HBD : Hid (Below w.heap.size w wa.drew) := Lib.hid HB1.drew
  go_region_held3 (fun w' => w'.cell? ⟨w.heap.size, 0, none⟩ = some (.int .i64 m.guest) ∧ w'.cell? ⟨w.heap.size, 1, none⟩ = some (.slice rA rn rc) ∧ w'.cell? ⟨w.heap.size, 2, none⟩ = some (.slice sA sn sc) ∧ w'.cell? ⟨w.heap.size, 3, none⟩ = some (.slice fA fn fc) ∧ w'.cell? ⟨w.heap.size, 4, none⟩ = some (.slice pA pn pc) ∧ Below wa.heap.size wa w')
    (first | (refine ⟨?_, ?_, ?_, ?_, ?_, ?_⟩ <;> first | assumption | exact HBd.out) | (apply img_keepN hz hb6; apply img_keepN hz hb5; (refine ⟨?_, ?_, ?_, ?_, ?_, ?_⟩ <;> first | assumption | exact HBd.out)) | (apply img_keepA hz; apply img_keepN hz hb6; apply img_keepN hz hb5; (refine ⟨?_, ?_, ?_, ?_, ?_, ?_⟩ <;> first | assumption | exact HBd.out)) | (apply img_keepN hz hb5; (refine ⟨?_, ?_, ?_, ?_, ?_, ?_⟩ <;> first | assumption | exact HBd.out)) | (apply img_keepA hz; apply img_keepN hz hb5; (refine ⟨?_, ?_, ?_, ?_, ?_, ?_⟩ <;> first | assumption | exact HBd.out)))
    (first | (go_at_call 30; refine (K1.out _ HBD.out).mono ?_; rintro e w5 ⟨rfl, hb5⟩) | (go_at_call 54; refine (K2.out _ (below_next HBD.out hb5)).mono ?_; rintro e w6 ⟨rfl, hb6⟩))
  go_wp2_with fail
  go_ret
  exact ⟨rfl, below_next (below_next HBD.out hb5) hb6⟩

set_option maxRecDepth 100000 in
set_option maxHeartbeats 1000000 in
theorem rallOf_any (v : IV) (m : Img) (g : Nat) (w : World) (h : ImgR w w.heap.size v m) (hg : g ≤ 16) (hgm : m.guest = (g : Nat))
    (hen : ∀ k, k < g → EntOk m.slots m.root k) (hp : ∀ k, PageOk m.slots (entryOf m.slots m.root k)) :
    Calls Tryz.prog 43 #[imgV m v] w (OwnRes w.heap.size 9 1 g ((allV m.slots m.root g).map Value.string) w) := by
  obtain ⟨i0, hi0, hz0, hz1, hz2⟩ := info_parts Tryz.infoStr
  have K1 := Lib.hid (fun k (hk : k < g) W (hb : Below w.heap.size w W) => rreadOf_any v m k W (h.next hb) (hen k hk) (hp k))
  obtain ⟨rA, rn, rc, sA, sn, sc, fA, fn, fc, pA, pn, pc⟩ := v
  dsimp only [imgV] at K1 ⊢
  rw [hgm] at K1 ⊢
  have HB1 := below1 w (.cells #[.int .i64 (g : Nat), .slice rA rn rc, .slice sA sn sc, .slice fA fn fc, .slice pA pn pc] 27)
  have HX := Lib.hid (Box.new w (g : Nat) ⟨rA, rn, rc, sA, sn, sc, fA, fn, fc, pA, pn, pc⟩ 27)
  have hz : w.heap.size < (w.alloc (.cells #[.int .i64 (g : Nat), .slice rA rn rc, .slice sA sn sc, .slice fA fn fc, .slice pA pn pc] 27)).heap.size := by simp
  clear h hen hp hgm
  go_enter Tryz.func43, Tryz.ntmps43
  go_wp2_with fail
  generalize hwa : w.alloc (.cells #[.int .i64 (g : Nat), .slice rA rn rc, .slice sA sn sc, .slice fA fn fc, .slice pA pn pc] 27) = wa at *
  have HWA := Lib.hid hwa
  clear hwa
  go_loopw [3, 4] (fun o i wr => ∃ (k c' : Nat) (A' : Option Addr), k ≤ g ∧ i = .int .i64 k ∧ o = .slice A' k c' ∧ wr.ownsRow wa.heap.size 9 1 (.slice A' k c') k ((allV m.slots m.root k).map Value.string) ∧ Below wa.heap.size wa wr ∧ k ≤ c' ∧ c' ≤ maxLen) (fun _ i _ => g - (intOf i).toNat)
  case atStart => exact ⟨0, 0, none, Nat.zero_le _, rfl, rfl, World.ownsRow_nil _ _ _ _, Below.refl _ _, Nat.le_refl _, by simp⟩
  case round =>
    obtain ⟨k, c', A', hkg, rfl, rfl, ho, hbw, hc1, hc2⟩ := hrel
    have HO := Lib.hid ho
    clear ho
    have HBr := below_next HB1 hbw
    obtain ⟨b0, b1, b2, b3, b4⟩ := HX.out.keep hbw hz
    dsimp only at b0 b1 b2 b3 b4
    by_cases hlt : k < g
    · have KE := Lib.hid (K1.out k hlt)
      have HG := Lib.hid (allV_succ m.slots m.root k)
      generalize pageV m.slots (entryOf m.slots m.root k) = pg at KE HG
      go_wp2_with fail
      refine (KE.out _ HBr).mono ?_
      rintro e w3 ⟨rfl, hb3⟩
      have hz3 := hb3.size
      obtain ⟨A2, c2, w4, q1, q2, q3, q4, q5, _, _⟩ := app_one (P := Tryz.prog) w3 wa.heap.size 22 22 9 i0 _ 1 16 Tryz.underlying22 hi0 hz0 hz1 hz2 rfl (by omega) _ _ _ (own_below HO.out hb3) #[.string pg] rfl
        (by intro u hu; simp at hu; subst hu; rfl) (by omega) (by unfold maxLen; omega) (Nat.le_trans hbw.size hz3)
      have HR := Lib.hid q1
      have HO2 := Lib.hid q2
      have hbw4 := (below_next hbw hb3).trans q3
      clear q1 q2 hb3 q3 b0 b1 b2 b3 b4
      go_wp2_with (at_builtin; refine wpList_app rfl _ _ _ _ rfl rfl rfl rfl HR.out ?_)
      go_roundw
      case rel => exact ⟨k + 1, c2, A2, by omega, by go_num, rfl, by rw [HG.out, List.map_append]; exact HO2.out, hbw4, q4, q5⟩
      case measure => simp [intOf]; omega
    · obtain rfl : k = g := by omega
      go_wp2_with fail
      go_ret
      exact ⟨A', c', rfl, ⟨HO.out.1, HO.out.2.imp id fun ⟨gg, cap, cur, h1, h2, h3⟩ => ⟨gg, cap, cur, h1, by omega, h3⟩⟩, below_next HB1 hbw, hc1, hc2⟩

end Go.Proofs.YtmdjoafbckphfaaGreat
-- Reads3: reads.Read, All, Past; the reference's PastOf. Conditions: the image is read below the heap's size.
namespace Go.Proofs.YtmdjoafbckphfaaGreat
open Go.RowKit Sl

theorem read_no {m : Img} {x : Int} (h : lookE m x ≠ 0) : readV m x = noP := by unfold readV; rw [if_neg h]
theorem read_ok {m : Img} {n : Nat} (h : lookE m (n : Nat) = 0) : readV m (n : Nat) = pageV m.slots (entryOf m.slots m.root n) := by unfold readV; rw [if_pos h, Int.toNat_natCast]
theorem allM_no {m : Img} (h : checkErr m ≠ 0) : allM m = [] := by unfold allM; rw [if_neg h]
theorem allM_ok {m : Img} (h : checkErr m = 0) : allM m = allV m.slots m.root m.guest.toNat := by unfold allM; rw [if_pos h]
theorem OwnRes.pair {base : Nat} {el : TypeId} {size n : Nat} {xs : List Value} {w w' : World} {A : Option Addr} {c : Nat} (ho : w'.ownsRow base el size (.slice A n c) n xs) (hb : Below base w w') (h1 : n ≤ c) (h2 : c ≤ maxLen) {xs' : List Value} {er er' : Int} (hx : xs = xs') (he : er = er') :
    OwnPair base el size xs' er w (.returned (.tuple #[.slice A n c, .int .i64 er'])) w' := by
  subst hx; subst he; exact ⟨A, n, c, rfl, ho, hb, h1, h2⟩
theorem own_base {w : World} {base base' size n : Nat} {e : TypeId} {v : Value} {xs : List Value} (h : w.ownsRow base e size v n xs) (hb : base' ≤ base) : w.ownsRow base' e size v n xs :=
  ⟨h.1, h.2.imp id fun ⟨g, cap, cur, h1, h2, h3⟩ => ⟨g, cap, cur, h1, by omega, h3⟩⟩

set_option maxRecDepth 100000 in
set_option maxHeartbeats 1000000 in
theorem tread_any (v : IV) (m : Img) (x : Int) (w : World) (h : ImgR w w.heap.size v m) :
    Calls Tryz.prog 26 #[imgV m v, .int .i64 x] w fun e w' => e = .returned (.tuple #[.string (readV m x), .int .i64 (lookE m x)]) ∧ Below w.heap.size w w' := by
  have K1' := fun W (hb : Below w.heap.size w W) => tlook_any v m x W (h.next hb)
  by_cases he : lookE m x = 0
  · obtain ⟨hck, hx0, hx1⟩ := look_is he
    obtain ⟨n, rfl⟩ := Int.eq_ofNat_of_zero_le hx0
    have K2 := Lib.hid (fun W (hb : Below w.heap.size w W) => page_any v m _ W (h.next hb) (entry_ok hck m.root n))
    have R := Lib.hid (read_ok he)
    rw [(look_ok hck hx1).2, he] at K1'
    have K1 := Lib.hid K1'
    have HE := Lib.hid he
    obtain ⟨rA, rn, rc, sA, sn, sc, fA, fn, fc, pA, pn, pc⟩ := v
    dsimp only [imgV] at K1 K2 ⊢
    have HB1 := below1 w (.cells #[.int .i64 m.guest, .slice rA rn rc, .slice sA sn sc, .slice fA fn fc, .slice pA pn pc] 27)
    have HX := Lib.hid (Box.new w m.guest ⟨rA, rn, rc, sA, sn, sc, fA, fn, fc, pA, pn, pc⟩ 27)
    have hz : w.heap.size < (w.alloc (.cells #[.int .i64 m.guest, .slice rA rn rc, .slice sA sn sc, .slice fA fn fc, .slice pA pn pc] 27)).heap.size := by simp
    generalize entryOf m.slots m.root n = en at K1 K2 R
    clear K1' h he hck hx0 hx1
    go_enter Tryz.func26, Tryz.ntmps26
    go_wp2_with fail
    refine (K1.out _ HB1).mono ?_
    rintro e w1 ⟨rfl, hb1⟩
    have HB := below_next HB1 hb1
    obtain ⟨b0, b1, b2, b3, b4⟩ := HX.out.keep hb1 hz
    dsimp only at b0 b1 b2 b3 b4
    go_wp2_with fail
    refine (K2.out _ HB).mono ?_
    rintro e w2 ⟨rfl, hb2⟩
    go_wp2_with fail
    go_ret2
    exact ⟨ret_si R.out HE.out, below_next HB hb2⟩
  · have R := Lib.hid (read_no he)
    obtain ⟨ln, lz⟩ : lookN m x = 0 ∧ (lookE m x != 0) = true := ⟨by unfold lookN; rw [if_neg he], by simpa using he⟩
    rw [ln] at K1'
    generalize lookE m x = er at *
    have K1 := Lib.hid K1'
    obtain ⟨rA, rn, rc, sA, sn, sc, fA, fn, fc, pA, pn, pc⟩ := v
    dsimp only [imgV] at K1 ⊢
    have HB1 := below1 w (.cells #[.int .i64 m.guest, .slice rA rn rc, .slice sA sn sc, .slice fA fn fc, .slice pA pn pc] 27)
    clear K1' h he ln
    go_enter Tryz.func26, Tryz.ntmps26
    go_wp2_with fail
    refine (K1.out _ HB1).mono ?_
    rintro e w1 ⟨rfl, hb1⟩
    go_wp2_with fail
    go_ret2
    exact ⟨ret_si R.out rfl, below_next HB1 hb1⟩

set_option maxRecDepth 100000 in
set_option maxHeartbeats 1000000 in
theorem tAll_any (v : IV) (m : Img) (w : World) (h : ImgR w w.heap.size v m) :
    Calls Tryz.prog 41 #[imgV m v] w (OwnPair w.heap.size 9 1 ((allM m).map Value.string) (checkErr m) w) := by
  have K1' := fun W (hb : Below w.heap.size w W) => tcheck_any v m W (h.next hb)
  by_cases he : checkErr m = 0
  · obtain ⟨g0, g16, hrf⟩ := own_facts he
    obtain ⟨g, hgm⟩ := Int.eq_ofNat_of_zero_le g0
    have R := Lib.hid (show allM m = allV m.slots m.root g from by rw [allM_ok he, hgm, Int.toNat_natCast])
    have K2 := Lib.hid (fun W (hb : Below w.heap.size w W) => tall_any v m g v.rA v.rn v.rc m.root W (h.next hb) (h.root.next hb) h.rcap.1 (by omega) (fun k hk => entOk_own he (by omega)) (fun k => entry_ok he m.root k))
    rw [he] at K1'
    have K1 := Lib.hid K1'
    have HE := Lib.hid he
    obtain ⟨rA, rn, rc, sA, sn, sc, fA, fn, fc, pA, pn, pc⟩ := v
    dsimp only [imgV] at K1 K2 ⊢
    rw [hgm] at K1 K2 ⊢
    have HB1 := below1 w (.cells #[.int .i64 (g : Nat), .slice rA rn rc, .slice sA sn sc, .slice fA fn fc, .slice pA pn pc] 27)
    have HX := Lib.hid (Box.new w (g : Nat) ⟨rA, rn, rc, sA, sn, sc, fA, fn, fc, pA, pn, pc⟩ 27)
    have hz : w.heap.size < (w.alloc (.cells #[.int .i64 (g : Nat), .slice rA rn rc, .slice sA sn sc, .slice fA fn fc, .slice pA pn pc] 27)).heap.size := by simp
    clear K1' h he g0 g16 hrf hgm
    go_enter Tryz.func41, Tryz.ntmps41
    go_wp2_with fail
    refine (K1.out _ HB1).mono ?_
    rintro e w1 ⟨rfl, hb1⟩
    have HB := below_next HB1 hb1
    obtain ⟨b0, b1, b2, b3, b4⟩ := HX.out.keep hb1 hz
    dsimp only at b0 b1 b2 b3 b4
    go_wp2_with fail
    refine (K2.out _ HB).mono ?_
    rintro e w2 ⟨A', c', rfl, ho, hb2, hc1, hc2⟩
    have HO := Lib.hid ho
    clear ho
    go_wp2_with fail
    go_ret2
    exact OwnRes.pair (own_base HO.out HB.size) (HB.trans (hb2.mono HB.size)) hc1 hc2 (by rw [R.out]) HE.out
  · have R := Lib.hid (allM_no he)
    have lz : (checkErr m != 0) = true := by simpa using he
    generalize checkErr m = er at *
    have K1 := Lib.hid K1'
    obtain ⟨rA, rn, rc, sA, sn, sc, fA, fn, fc, pA, pn, pc⟩ := v
    dsimp only [imgV] at K1 ⊢
    have HB1 := below1 w (.cells #[.int .i64 m.guest, .slice rA rn rc, .slice sA sn sc, .slice fA fn fc, .slice pA pn pc] 27)
    clear K1' h he
    go_enter Tryz.func41, Tryz.ntmps41
    go_wp2_with fail
    refine (K1.out _ HB1).mono ?_
    rintro e w1 ⟨rfl, hb1⟩
    go_wp2_with fail
    go_ret2
    exact OwnPair.mk_nil (by rw [R.out]; rfl) rfl (below_next HB1 hb1)

end Go.Proofs.YtmdjoafbckphfaaGreat
-- Reads4: The reference's PastOf; the laws' readsBegun. Conditions: the image is read below the heap's size.
namespace Go.Proofs.YtmdjoafbckphfaaGreat
open Go.RowKit Sl

section
variable {wa W W' : World} {k b o o' : Nat} {a b' c d f u : Value}
theorem img_keep7 (hlt : k < wa.heap.size) (hb' : b < wa.heap.size) (hb : Below wa.heap.size W W')
    (h : W.cell? ⟨k, 0, none⟩ = some a ∧ W.cell? ⟨k, 1, none⟩ = some b' ∧ W.cell? ⟨k, 2, none⟩ = some c ∧ W.cell? ⟨k, 3, none⟩ = some d ∧ W.cell? ⟨k, 4, none⟩ = some f ∧ W.cell? ⟨b, o, none⟩ = some u ∧ Below wa.heap.size wa W) :
    W'.cell? ⟨k, 0, none⟩ = some a ∧ W'.cell? ⟨k, 1, none⟩ = some b' ∧ W'.cell? ⟨k, 2, none⟩ = some c ∧ W'.cell? ⟨k, 3, none⟩ = some d ∧ W'.cell? ⟨k, 4, none⟩ = some f ∧ W'.cell? ⟨b, o, none⟩ = some u ∧ Below wa.heap.size wa W' := by
  obtain ⟨h0, h1, h2, h3, h4, h5, h6⟩ := h
  exact ⟨(hb.cell (by simp; omega)).trans h0, (hb.cell (by simp; omega)).trans h1, (hb.cell (by simp; omega)).trans h2, (hb.cell (by simp; omega)).trans h3, (hb.cell (by simp; omega)).trans h4, (hb.cell (by simp; omega)).trans h5, h6.trans hb⟩
theorem img_keep7N (hlt : k < wa.heap.size) (hb' : b < wa.heap.size) (hb : Below W.heap.size W W')
    (h : W.cell? ⟨k, 0, none⟩ = some a ∧ W.cell? ⟨k, 1, none⟩ = some b' ∧ W.cell? ⟨k, 2, none⟩ = some c ∧ W.cell? ⟨k, 3, none⟩ = some d ∧ W.cell? ⟨k, 4, none⟩ = some f ∧ W.cell? ⟨b, o, none⟩ = some u ∧ Below wa.heap.size wa W) :
    W'.cell? ⟨k, 0, none⟩ = some a ∧ W'.cell? ⟨k, 1, none⟩ = some b' ∧ W'.cell? ⟨k, 2, none⟩ = some c ∧ W'.cell? ⟨k, 3, none⟩ = some d ∧ W'.cell? ⟨k, 4, none⟩ = some f ∧ W'.cell? ⟨b, o, none⟩ = some u ∧ Below wa.heap.size wa W' :=
  img_keep7 hlt hb' (hb.mono h.2.2.2.2.2.2.size) h
theorem img_keep7A (hlt : k < wa.heap.size) (hb' : b < wa.heap.size) (ob : Obj)
    (h : W.cell? ⟨k, 0, none⟩ = some a ∧ W.cell? ⟨k, 1, none⟩ = some b' ∧ W.cell? ⟨k, 2, none⟩ = some c ∧ W.cell? ⟨k, 3, none⟩ = some d ∧ W.cell? ⟨k, 4, none⟩ = some f ∧ W.cell? ⟨b, o, none⟩ = some u ∧ Below wa.heap.size wa W) :
    (W.alloc ob).cell? ⟨k, 0, none⟩ = some a ∧ (W.alloc ob).cell? ⟨k, 1, none⟩ = some b' ∧ (W.alloc ob).cell? ⟨k, 2, none⟩ = some c ∧ (W.alloc ob).cell? ⟨k, 3, none⟩ = some d ∧ (W.alloc ob).cell? ⟨k, 4, none⟩ = some f ∧ (W.alloc ob).cell? ⟨b, o, none⟩ = some u ∧ Below wa.heap.size wa (W.alloc ob) :=
  img_keep7N hlt hb' (below1 W ob) h
end

end Go.Proofs.YtmdjoafbckphfaaGreat
