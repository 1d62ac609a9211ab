/- reads.page, reads.all, and the reference's pageOf, ReadOf, AllOf. Conditions: the image is read below the heap's size; entries are pages of it. -/
import Derived.Test.YtpboapeoejdipaaCheck2
import Derived.Test.YtpboapeoejdipaaPureA
import Derived.Test.YtpboapeoejdipaaPages
import Derived.Test.YtpboapeoejdipaaMemA
import Derived.StillTailTactics
namespace Go.Proofs.Ytpboapeoejdipaa
open Go.RowKit Sl

theorem ret_str {a b : ByteArray} (h : b = a) : Ending.returned (.string a) = .returned (.string b) := by rw [h]

set_option maxRecDepth 100000 in
set_option maxHeartbeats 400000 in
theorem page_any (v : IV) (m : Img) (e : Int) (w : World) (h : ImgR w w.heap.size v m) (he : PageOk m.slots e) :
    Calls Try.prog 88 #[.agg #[.int .i64 m.guest, .slice v.rA v.rn v.rc, .slice v.sA v.sn v.sc, .slice v.fA v.fn v.fc, .slice v.pA v.pn v.pc], .int .i64 e] w fun e' w' => e' = .returned (.string (pageV m.slots e)) ∧ Below w.heap.size w w' := by
  obtain ⟨rA, rn, rc, sA, sn, sc, fA, fn, fc, pA, pn, pc⟩ := v
  dsimp only
  have HB1 := below1 w (.cells #[.int .i64 m.guest, .slice rA rn rc, .slice sA sn sc, .slice fA fn fc, .slice pA pn pc] 26)
  by_cases h0 : e ≤ 0
  · have R := Lib.hid (pageV_no (l := m.slots) h0)
    clear h he
    go_enter Try.func88, Try.ntmps88
    go_wp2_with fail
    refine (zero_any _).mono ?_
    rintro e w1 ⟨rfl, hb1⟩
    go_wp2_with fail
    go_ret
    exact ⟨ret_str R.out, below_next HB1 hb1⟩
  · rcases he with he | ⟨k, s, rfl, hk, hs, _⟩
    · exact absurd he h0
    · have R := Lib.hid (pageV_at hs hk)
      have hkl : k < sn := by have := h.slen; have := (List.getElem?_eq_some_iff.1 hs).1; dsimp only at *; omega
      obtain ⟨b, o, s2, tA, tn, tc, rfl, hb, hx, d0, d1, d2, hsv⟩ := h.slots.at_ (k := k) hkl
      rw [hs] at hx
      injection hx with hx
      subst hx
      have d1' := (HB1.cell (p := ⟨b, o + k * 3 + 1, none⟩) hb).trans d1
      have e0 : (0 : Int) ≤ (k : Int) := by omega
      have e1 : (k : Int) < (sn : Int) := by omega
      have e2 : (0 : Int) < (k : Int) := by omega
      clear h hs d0 d1 d2 hsv h0
      go_enter Try.func88, Try.ntmps88
      go_wp2_with fail
      go_ret
      exact ⟨ret_str R.out, HB1⟩

set_option maxRecDepth 100000 in
set_option maxHeartbeats 1000000 in
theorem tall_any (v : IV) (m : Img) (g : Nat) (A : Option Addr) (n c : Nat) (root : List Int) (w : World) (h : ImgR w w.heap.size v m) (hr : Rd w w.heap.size 1 A n (ints root)) (hn : n ≤ 4611686018427387903) (hg : g ≤ 16)
    (hen : ∀ k, k < g → EntOk m.slots root k) (hp : ∀ k, PageOk m.slots (entryOf m.slots root k)) :
    Calls Try.prog 56 #[.agg #[.int .i64 m.guest, .slice v.rA v.rn v.rc, .slice v.sA v.sn v.sc, .slice v.fA v.fn v.fc, .slice v.pA v.pn v.pc], .int .i64 (g : Nat), .slice A n c] w (OwnRes w.heap.size 9 1 g ((allV m.slots root g).map Value.string) w) := by
  obtain ⟨i0, hi0, hz0, hz1, hz2⟩ := info_parts Try.infoStr
  have K1 := Lib.hid (fun k (hk : k < g) W (hb : Below w.heap.size w W) => entry_any v m A n c root k W (h.next hb) (hr.next hb) (hen k hk) hn)
  have K2 := Lib.hid (fun k W (hb : Below w.heap.size w W) => page_any v m _ W (h.next hb) (hp k))
  obtain ⟨rA, rn, rc, sA, sn, sc, fA, fn, fc, pA, pn, pc⟩ := v
  dsimp only at K1 K2 ⊢
  have HB1 := below1 w (.cells #[.int .i64 m.guest, .slice rA rn rc, .slice sA sn sc, .slice fA fn fc, .slice pA pn pc] 26)
  have HX := Lib.hid (Box.new w m.guest ⟨rA, rn, rc, sA, sn, sc, fA, fn, fc, pA, pn, pc⟩ 26)
  have hz : w.heap.size < (w.alloc (.cells #[.int .i64 m.guest, .slice rA rn rc, .slice sA sn sc, .slice fA fn fc, .slice pA pn pc] 26)).heap.size := by simp
  clear h hr hen hp
  go_enter Try.func56, Try.ntmps56
  go_wp2_with fail
  generalize hwa : w.alloc (.cells #[.int .i64 m.guest, .slice rA rn rc, .slice sA sn sc, .slice fA fn fc, .slice pA pn pc] 26) = wa at *
  have HWA := Lib.hid hwa
  clear hwa
  go_loopw [7, 10] (fun o i wr => ∃ (k c' : Nat) (A' : Option Addr), k ≤ g ∧ i = .int .i64 k ∧ o = .slice A' k c' ∧ wr.ownsRow wa.heap.size 9 1 (.slice A' k c') k ((allV m.slots root k).map Value.string) ∧ Below wa.heap.size wa wr ∧ k ≤ c' ∧ c' ≤ maxLen) (fun _ i _ => g - (intOf i).toNat)
  case atStart => exact ⟨0, 0, none, Nat.zero_le _, rfl, rfl, World.ownsRow_nil _ _ _ _, Below.refl _ _, Nat.le_refl _, by simp⟩
  case round =>
    obtain ⟨k, c', A', hkg, rfl, rfl, ho, hbw, hc1, hc2⟩ := hrel
    have HO := Lib.hid ho
    clear ho
    by_cases hlt : k < g
    · have HBr := below_next HB1 hbw
      obtain ⟨b0, b1, b2, b3, b4⟩ := HX.out.keep hbw hz
      dsimp only at b0 b1 b2 b3 b4
      have KE := Lib.hid (K1.out k hlt)
      have KP := Lib.hid (K2.out k)
      have HG := Lib.hid (allV_succ m.slots root k)
      generalize entryOf m.slots root k = en at KE KP HG
      generalize pageV m.slots en = pg at KP HG
      go_wp2_with fail
      have HOD : Hid (wr.drew.ownsRow wa.heap.size 9 1 (.slice A' k c') k ((allV m.slots root k).map Value.string)) := Lib.hid HO.out
      have HBd : Hid (Below wa.heap.size wa wr.drew) := Lib.hid hbw.drew
      have HBD : Hid (Below w.heap.size w wr.drew) := Lib.hid HBr.drew
      go_region_held3 (fun w' => w'.cell? ⟨w.heap.size, 0, none⟩ = some (.int .i64 m.guest) ∧ w'.cell? ⟨w.heap.size, 1, none⟩ = some (.slice rA rn rc) ∧ w'.cell? ⟨w.heap.size, 2, none⟩ = some (.slice sA sn sc) ∧ w'.cell? ⟨w.heap.size, 3, none⟩ = some (.slice fA fn fc) ∧ w'.cell? ⟨w.heap.size, 4, none⟩ = some (.slice pA pn pc) ∧ Below wa.heap.size wa w')
        (first | (refine ⟨?_, ?_, ?_, ?_, ?_, ?_⟩ <;> first | assumption | exact HBd.out) | (apply img_keepN hz hb6; apply img_keepN hz hb5; (refine ⟨?_, ?_, ?_, ?_, ?_, ?_⟩ <;> first | assumption | exact HBd.out)) | (apply img_keepA hz; apply img_keepN hz hb6; apply img_keepN hz hb5; (refine ⟨?_, ?_, ?_, ?_, ?_, ?_⟩ <;> first | assumption | exact HBd.out)) | (apply img_keepB hz q3; apply img_keepN hz hb6; apply img_keepN hz hb5; (refine ⟨?_, ?_, ?_, ?_, ?_, ?_⟩ <;> first | assumption | exact HBd.out)) | (apply img_keepN hz hb5; (refine ⟨?_, ?_, ?_, ?_, ?_, ?_⟩ <;> first | assumption | exact HBd.out)) | (apply img_keepA hz; apply img_keepN hz hb5; (refine ⟨?_, ?_, ?_, ?_, ?_, ?_⟩ <;> first | assumption | exact HBd.out)) | (apply img_keepB hz q3; apply img_keepN hz hb5; (refine ⟨?_, ?_, ?_, ?_, ?_, ?_⟩ <;> first | assumption | exact HBd.out)))
        (first | (go_at_call 65; refine (KE.out _ HBD.out).mono ?_; rintro e w5 ⟨rfl, hb5⟩) | (go_at_call 88; refine (KP.out _ (below_next HBD.out hb5)).mono ?_; rintro e w6 ⟨rfl, hb6⟩) | (refine step_app1 rfl _ _ _ _ rfl rfl wa.heap.size 9 i0 _ 1 16 Try.underlying37 hi0 hz0 hz1 hz2 rfl (by omega) _ _ _ rfl (own_below (own_below HOD.out hb5) hb6) #[.string pg] rfl rfl (by intro u hu; simp at hu; subst hu; rfl) (by omega) (by unfold maxLen; omega) (Nat.le_trans HBd.out.size (Nat.le_trans hb5.size hb6.size)) ?_; intro A2 c2 w4 q2 q3 q4 q5))
      have HO2 := Lib.hid q2
      have hbw4 := ((HBd.out.trans (hb5.mono HBd.out.size)).trans (hb6.mono (Nat.le_trans HBd.out.size hb5.size))).trans q3
      clear q2 hb5 hb6 q3 b0 b1 b2 b3 b4
      go_wp2_with fail
      go_roundw
      case rel => exact ⟨k + 1, c2, A2, by omega, by go_num, rfl, by rw [HG.out, List.map_append]; exact HO2.out, hbw4, q4, q5⟩
      case measure => simp [intOf]; omega
    · obtain rfl : k = g := by omega
      go_wp2_with fail
      go_ret
      exact ⟨A', c', rfl, ⟨HO.out.1, HO.out.2.imp id fun ⟨gg, cap, cur, h1, h2, h3⟩ => ⟨gg, cap, cur, h1, by omega, h3⟩⟩, below_next HB1 hbw, hc1, hc2⟩
end Go.Proofs.Ytpboapeoejdipaa
