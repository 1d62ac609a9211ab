/- The reference's renamed and allRenamed. Conditions: the image is read below the heap's size, its slot 0 is free. -/
import Derived.Test.YtmdjoafbckphfaaPkMem
import Derived.Test.YtmdjoafbckphfaaRegZ
namespace Go.Proofs.Ytmdjoafbckphfaa
open Go.RowKit Sl
set_option maxRecDepth 100000 in
set_option maxHeartbeats 1000000 in
theorem renamed_any (v : IV) (m : Img) (x : Int) (w : World) (h : ImgR w w.heap.size v m) (h0 : m.slots.head? = some freeSlot) (hx : x ≤ (m.slots.length : Int)) (h40 : m.slots.length ≤ 40) :
    Calls Try.prog 75 #[imgV m v, .int .i64 x] w fun e w' => e = .returned (.int .i64 (ren m.slots x)) ∧ Below w.heap.size w w' := by
  have HB1 := below1 w (.cells #[.int .i64 m.guest, .slice v.rA v.rn v.rc, .slice v.sA v.sn v.sc, .slice v.fA v.fn v.fc, .slice v.pA v.pn v.pc] 27)
  have HX := Box.new w m.guest v 27
  obtain ⟨rA, rn, rc, sA, sn, sc, fA, fn, fc, pA, pn, pc⟩ := v
  dsimp only [imgV] at *
  have HI := Lib.hid h
  have hsn : m.slots.length = sn := h.slen
  obtain ⟨b0, b1, b2, b3, b4⟩ := HX
  dsimp only at b0 b1 b2 b3 b4
  have hz : w.heap.size < (w.alloc (.cells #[.int .i64 m.guest, .slice rA rn rc, .slice sA sn sc, .slice fA fn fc, .slice pA pn pc] 27)).heap.size := by simp
  by_cases hp : x ≤ 0
  · have R := Lib.hid (ren_low (l := m.slots) hp)
    clear h h0 hx
    go_enter Try.func75, Try.ntmps75
    go_wp2_with fail
    go_ret
    exact ⟨ret_int R.out, HB1⟩
  · obtain ⟨n, rfl⟩ := Int.eq_ofNat_of_zero_le (a := x) (by omega)
    have h1n : 1 ≤ n := by omega
    have hp' : ¬ ((n : Int) ≤ 0) := by omega
    have R := Lib.hid (ren_nat (l := m.slots) h1n)
    have U1 := Lib.hid (show used (m.slots.take 1) = 0 from by
      cases hl : m.slots with
      | nil => rfl
      | cons a t => rw [hl] at h0; have : a = freeSlot := by simpa using h0
                    subst this; rfl)
    have hns : n ≤ sn := by omega
    clear h h0 hx hp
    go_enter Try.func75, Try.ntmps75
    go_wp2_with fail
    generalize w.alloc (.cells #[.int .i64 m.guest, .slice rA rn rc, .slice sA sn sc, .slice fA fn fc, .slice pA pn pc] 27) = wa at *
    go_loop [5, 6] (fun c i => ∃ k : Nat, 1 ≤ k ∧ k ≤ n ∧ i = .int .i64 k ∧ c = .int .i64 ((used (m.slots.take k) + 1 : Nat) : Int)) (fun _ i => n - (intOf i).toNat)
    case atStart => exact ⟨1, Nat.le_refl _, h1n, rfl, by rw [U1.out]; rfl⟩
    case round =>
      obtain ⟨k, hk1, hk, rfl, rfl⟩ := hrel
      by_cases hlt : k < n
      · obtain ⟨b, o, s, tA, tn, tc, rfl, hb, hs, d0, d1, d2, hsv⟩ := HI.out.slots.at_ (k := k) (show k < sn by omega)
        have d0' := (HB1.cell (p := ⟨b, o + k * 3, none⟩) hb).trans d0
        have HU := Lib.hid (used_take_succ m.slots k s hs)
        have e0 : (0 : Int) ≤ (k : Int) := by omega
        have e1 : (k : Int) < (sn : Int) := by omega
        have hub := Nat.le_trans (used_max (l := m.slots) (n := k)) (used_le m.slots)
        clear hs d0 d1 d2 hsv
        generalize used (m.slots.take k) = u1 at *
        by_cases hf : s.kind = 0
        · have hfb : (s.kind != 0) = false := by simp [hf]
          have HU2 := Lib.hid (show used (m.slots.take (k + 1)) = u1 from by have := HU.out; rw [if_pos hf] at this; omega)
          clear HU
          go_wp2_with fail
          go_round
          case rel => exact ⟨k + 1, by omega, by omega, by go_num, by rw [HU2.out]⟩
          case measure => simp [intOf]; omega
        · have hfb : (s.kind != 0) = true := by simpa using hf
          have HU2 := Lib.hid (show used (m.slots.take (k + 1)) = u1 + 1 from by have := HU.out; rw [if_neg hf] at this; omega)
          clear HU
          go_wp2_with fail
          go_round
          case rel => exact ⟨k + 1, by omega, by omega, by go_num, by rw [HU2.out]; go_num⟩
          case measure => simp [intOf]; omega
      · obtain rfl : k = n := by omega
        go_wp2_with fail
        go_ret
        exact ⟨ret_int R.out, HB1⟩
set_option maxRecDepth 100000 in
set_option maxHeartbeats 2000000 in
theorem allRenamed_any (v : IV) (m : Img) (A : Option Addr) (n c : Nat) (xs : List Int) (w : World) (h : ImgR w w.heap.size v m) (hr : Rd w w.heap.size 1 A n (ints xs)) (hn : n ≤ 1000) (h0 : m.slots.head? = some freeSlot)
    (hx : ∀ x ∈ xs, x ≤ (m.slots.length : Int)) (h40 : m.slots.length ≤ 40) :
    Calls Try.prog 48 #[imgV m v, .slice A n c] w (OwnRes w.heap.size 3 1 n (ints (xs.map (ren m.slots))) w) := by
  obtain ⟨i0, hi0, hz0, hz1, hz2⟩ := info_parts Try.infoInt
  have hxl : xs.length = n := hr.len
  have K1 := Lib.hid (fun x (hx' : x ∈ xs) W (hb : Below w.heap.size w W) => renamed_any v m x W (h.next hb) h0 (hx x hx') h40)
  have HR := Lib.hid (fun W (hb : Below w.heap.size w W) => Rd.next hr hb)
  obtain ⟨rA, rn, rc, sA, sn, sc, fA, fn, fc, pA, pn, pc⟩ := v
  dsimp only [imgV] at K1 ⊢
  have HX := Lib.hid (Box.new w m.guest ⟨rA, rn, rc, sA, sn, sc, fA, fn, fc, pA, pn, pc⟩ 27)
  have HB1 := below1 w (.cells #[.int .i64 m.guest, .slice rA rn rc, .slice sA sn sc, .slice fA fn fc, .slice pA pn pc] 27)
  have hz : w.heap.size < (w.alloc (.cells #[.int .i64 m.guest, .slice rA rn rc, .slice sA sn sc, .slice fA fn fc, .slice pA pn pc] 27)).heap.size := by simp
  generalize ren m.slots = f at *
  clear h hr hx h0 h40
  go_enter Try.func48, Try.ntmps48
  go_wp2_with fail
  generalize (w.alloc (.cells #[.int .i64 m.guest, .slice rA rn rc, .slice sA sn sc, .slice fA fn fc, .slice pA pn pc] 27)) = wa at *
  go_loopw [5, 6] (fun o i wr => ∃ (k c' : Nat) (A' : Option Addr), k ≤ n ∧ i = .int .i64 k ∧ o = .slice A' k c' ∧ wr.ownsRow wa.heap.size 3 1 (.slice A' k c') k (ints ((xs.take k).map f)) ∧ Below wa.heap.size wa wr ∧ k ≤ c' ∧ c' ≤ maxLen) (fun _ i _ => n - (intOf i).toNat)
  case atStart => exact ⟨0, 0, none, Nat.zero_le _, rfl, rfl, World.ownsRow_nil _ _ _ _, Below.refl _ _, Nat.le_refl _, by simp⟩
  case round =>
    obtain ⟨k, c', A', hkg, rfl, rfl, ho, hbw, hc1, hc2⟩ := hrel
    have HO := Lib.hid ho
    clear ho
    have HBr := below_next HB1 hbw
    by_cases hlt : k < n
    · obtain ⟨b0, b1, b2, b3, b4⟩ := HX.out.keep hbw hz
      dsimp only at b0 b1 b2 b3 b4
      obtain ⟨b, o, x, rfl, hb, hx, cx0⟩ := (HR.out wa HB1).at1 hlt
      have cx := (hbw.cell (p := ⟨b, o + k, none⟩) hb).trans cx0
      have KE := Lib.hid (K1.out x (List.mem_of_getElem? hx) wr.drew HBr.drew)
      have HG := Lib.hid (show ints ((xs.take (k + 1)).map f) = ints ((xs.take k).map f) ++ [.int .i64 (f x)] from by rw [List.take_add_one, hx]; simp [ints])
      have e0 : (0 : Int) ≤ (k : Int) := by omega
      have e1 : (k : Int) < (n : Int) := by omega
      have lz : w.heap.size < wa.heap.size := hz
      have mvT := Lib.hid (fun (W' : World) (hb2 : Below wa.heap.size wr.drew W') => (show W'.cell? ⟨w.heap.size, 0, none⟩ = some (.int .i64 m.guest) ∧ W'.cell? ⟨w.heap.size, 1, none⟩ = some (.slice rA rn rc) ∧ W'.cell? ⟨w.heap.size, 2, none⟩ = some (.slice sA sn sc) ∧ W'.cell? ⟨w.heap.size, 3, none⟩ = some (.slice fA fn fc) ∧ W'.cell? ⟨w.heap.size, 4, none⟩ = some (.slice pA pn pc) ∧ W'.cell? ⟨b, o + k, none⟩ = some (.int .i64 x) from ⟨(hb2.cell (p := ⟨w.heap.size, 0, none⟩) lz).trans b0, (hb2.cell (p := ⟨w.heap.size, 1, none⟩) lz).trans b1, (hb2.cell (p := ⟨w.heap.size, 2, none⟩) lz).trans b2, (hb2.cell (p := ⟨w.heap.size, 3, none⟩) lz).trans b3, (hb2.cell (p := ⟨w.heap.size, 4, none⟩) lz).trans b4, (hb2.cell (p := ⟨b, o + k, none⟩) hb).trans cx⟩))
      clear hx
      go_wp2_with fail
      clear b0 b1 b2 b3 b4 cx cx0
      refine wp_region_z (S := fun W' => W'.cell? ⟨w.heap.size, 0, none⟩ = some (.int .i64 m.guest) ∧ W'.cell? ⟨w.heap.size, 1, none⟩ = some (.slice rA rn rc) ∧ W'.cell? ⟨w.heap.size, 2, none⟩ = some (.slice sA sn sc) ∧ W'.cell? ⟨w.heap.size, 3, none⟩ = some (.slice fA fn fc) ∧ W'.cell? ⟨w.heap.size, 4, none⟩ = some (.slice pA pn pc) ∧ W'.cell? ⟨b, o + k, none⟩ = some (.int .i64 x)) 9 (by kernel_rfl) (fun hC => ?_)
      have hSS := mvT.out wr.drew (Below.refl _ _)
      apply wpAnyZ_take (i := 0)
      case hi => rfl
      case hs => kernel_rfl
      case hf => kernel_rfl
      case hr => kernel_rfl
      case hu => kernel_rfl
      case hw => exact fun z h1 h2 => (by have h2 : z < 10 := h2; have h3 : z = 9 := (by omega); subst h3; exact ⟨[8], by kernel_rfl⟩)
      case hQ => exact fun _ _ _ h => h
      case hy => exact Or.inl ⟨by rfl, fun w' hSw => by (obtain ⟨s0, s1, s2, s3, s4, s5⟩ := hSw; go_simp; try with_reducible rfl)⟩
      case hS => assumption
      case hC => assumption
      clear hC
      intro hC
      apply wpAnyZ_take (i := 1)
      case hi => rfl
      case hs => kernel_rfl
      case hf => kernel_rfl
      case hr => kernel_rfl
      case hu => kernel_rfl
      case hw => exact fun z h1 h2 => (by have h2 : z < 10 := h2; have h3 : z = 9 := (by omega); subst h3; exact ⟨[6, 8], by kernel_rfl⟩)
      case hQ => exact fun _ _ _ h => h
      case hy => exact Or.inl ⟨by rfl, fun w' hSw => by (obtain ⟨s0, s1, s2, s3, s4, s5⟩ := hSw; go_simp; try with_reducible rfl)⟩
      case hS => assumption
      case hC => assumption
      clear hC
      intro hC
      apply wpAnyZ_take (i := 2)
      case hi => rfl
      case hs => kernel_rfl
      case hf => kernel_rfl
      case hr => kernel_rfl
      case hu => kernel_rfl
      case hw => exact fun z h1 h2 => (by have h2 : z < 10 := h2; have h3 : z = 9 := (by omega); subst h3; exact ⟨[4, 5, 6, 8], by kernel_rfl⟩)
      case hQ => exact fun _ _ _ h => h
      case hy => exact Or.inl ⟨by rfl, fun w' hSw => by (obtain ⟨s0, s1, s2, s3, s4, s5⟩ := hSw; go_simp; try with_reducible rfl)⟩
      case hS => assumption
      case hC => assumption
      clear hC
      intro hC
      apply wpAnyZ_take (i := 3)
      case hi => rfl
      case hs => kernel_rfl
      case hf => kernel_rfl
      case hr => kernel_rfl
      case hu => kernel_rfl
      case hw => exact fun z h1 h2 => (by have h2 : z < 10 := h2; have h3 : z = 9 := (by omega); subst h3; exact ⟨[4, 5, 6, 8], by kernel_rfl⟩)
      case hQ => exact fun _ _ _ h => h
      case hy => exact Or.inl ⟨by rfl, fun w' hSw => by (obtain ⟨s0, s1, s2, s3, s4, s5⟩ := hSw; go_simp; try with_reducible rfl)⟩
      case hS => assumption
      case hC => assumption
      clear hC
      intro hC
      apply wpAnyZ_take (i := 4)
      case hi => rfl
      case hs => kernel_rfl
      case hf => kernel_rfl
      case hr => kernel_rfl
      case hu => kernel_rfl
      case hw => exact fun z h1 h2 => (by have h2 : z < 10 := h2; have h3 : z = 9 := (by omega); subst h3; exact ⟨[5, 6, 8], by kernel_rfl⟩)
      case hQ => exact fun _ _ _ h => h
      case hy => exact Or.inl ⟨by rfl, fun w' hSw => by (obtain ⟨s0, s1, s2, s3, s4, s5⟩ := hSw; go_simp; try with_reducible rfl)⟩
      case hS => assumption
      case hC => assumption
      clear hC
      intro hC
      apply wpAnyZ_take (i := 5)
      case hi => rfl
      case hs => kernel_rfl
      case hf => kernel_rfl
      case hr => kernel_rfl
      case hu => kernel_rfl
      case hw => exact fun z h1 h2 => (by have h2 : z < 10 := h2; have h3 : z = 9 := (by omega); subst h3; exact ⟨[6, 8], by kernel_rfl⟩)
      case hQ => exact fun _ _ _ h => h
      case hy => exact Or.inl ⟨by rfl, fun w' hSw => by (obtain ⟨s0, s1, s2, s3, s4, s5⟩ := hSw; go_simp; try with_reducible rfl)⟩
      case hS => assumption
      case hC => assumption
      clear hC
      intro hC
      clear hSS hC
      refine wpAnyZ_one (i := 6) (by kernel_rfl) rfl (fun K' hK => ?_)
      go_simp
      refine KE.out.mono ?_
      rintro e w7 ⟨rfl, hb7⟩
      have hb7a : Below wa.heap.size wr.drew w7 := hb7.mono hbw.size
      refine hK.out _ _ (fun _ => mvT.out _ hb7a) ?_
      clear hK
      have l7 := hb7.size
      have hd : wr.drew.heap.size = wr.heap.size := rfl
      have hbr : Below wr.heap.size wr w7 := (Below.refl wr.heap.size wr).drew.trans hb7
      have ho7 := own_below HO.out hbr
      have lw7 : wa.heap.size ≤ w7.heap.size := by have := hbw.size; omega
      have hsz : (w7.alloc (.cells #[.int .i64 (f x)] 3)).heap.size = w7.heap.size + 1 := World.size_alloc _ _
      obtain ⟨A2, c2, w4, q1, q2, q3, q4, q5, q6, _⟩ := app_one (P := Try.prog) w7 wa.heap.size 23 23 3 i0 _ 1 8 Try.underlying23 hi0 hz0 hz1 hz2 rfl (by omega) _ _ _ ho7 #[.int .i64 (f x)] rfl
        (by intro u hu; simp at hu; subst hu; rfl) (by omega) (by unfold maxLen; omega) lw7
      have HR2 := Lib.hid q1
      have M8 := Lib.hid (mvT.out _ (hb7a.trans ((below1 w7 (.cells #[.int .i64 (f x)] 3)).mono lw7)))
      have M9 := Lib.hid (mvT.out _ (hb7a.trans q3))
      have HO2 := Lib.hid q2
      have hbw4 := (below_next hbw hbr).trans q3
      clear q1 q2 q3 q6 hb7 hbr ho7
      refine wpAnyZ_one (i := 7) (by kernel_rfl) rfl (fun K' hK => ?_)
      go_simp
      refine hK.out _ _ (fun _ => M8.out) ?_
      clear hK
      refine wpAnyZ_one (i := 8) (by kernel_rfl) rfl (fun K' hK => ?_)
      refine step_app rfl _ _ _ _ _ rfl rfl rfl rfl HR2.out ?_
      refine hK.out _ _ (fun _ => M9.out) ?_
      clear hK
      refine wpAnyZ_one (i := 9) (by kernel_rfl) rfl (fun K' hK => ?_)
      go_simp
      refine hK.out _ _ (fun h => absurd h (by decide)) ?_
      clear hK
      refine wpAnyZ_done (by kernel_rfl) ?_ _
      clear mvT
      go_wp2_with fail
      go_roundw
      case rel => exact ⟨k + 1, c2, A2, by omega, by go_num, rfl, by rw [HG.out]; exact HO2.out, hbw4, q4, q5⟩
      case measure => simp [intOf]; omega
    · obtain rfl : k = n := by omega
      have HT : xs.take k = xs := List.take_of_length_le (by omega)
      rw [HT] at HO
      clear HT
      go_wp2_with fail
      go_ret
      exact ⟨A', c', rfl, own_base HO.out HB1.size, HBr, hc1, hc2⟩
end Go.Proofs.Ytmdjoafbckphfaa
