/- wire.Write; the reference's bytesOf, ImageBytes. Conditions: the image is read below the heap's size; ImageBytes: it is right. -/
import Derived.Test.YtbhhcjnjddcocaaVPen
import Derived.Test.YtbhhcjnjddcocaaCheck
import Derived.Deep.DeepCutAuto
namespace Go.Proofs.Ytbhhcjnjddcocaa
open Go.RowKit Sl
theorem own_str {w : World} {base n c : Nat} {A : Option Addr} {l : List UInt8} (ho : w.ownsRow base 5 1 (.slice A n c) n (u8s l)) (hn : l ≠ []) : (convert 40 9 (.slice A n c)).run Try.prog w = .ok (.string (ofL l)) w := by
  have hl : l.length = n := by have := ho.1; rw [u8s_len] at this; omega
  have h0 : 0 < n := by
    rcases Nat.eq_zero_or_pos n with h | h
    · exact absurd (List.eq_nil_of_length_eq_zero (by omega)) hn
    · exact h
  obtain ⟨b, rfl, _, _⟩ := own_some ho h0
  subst hl
  refine run_convert_bytes_back w 40 9 5 ⟨b, 0, none⟩ c l Try.underlying40 Try.underlying5 Try.underlying9 fun j hj => ?_
  have := ho.cells (g := b) rfl j (.int .u8 (l[j].toNat : Int)) (by unfold u8s; rw [List.getElem?_map, List.getElem?_eq_getElem hj]; rfl)
  exact this
section
theorem vrow (base : Nat) (w : World) (xs : List Int) : ∀ W, VStep base (w.alloc (.cells (ints xs).toArray 3)) W → Rd W W.heap.size 1 (some ⟨w.heap.size, 0, none⟩) xs.length (ints xs) := by
  intro W hv
  have hh := heap_alloc_new w (.cells (ints xs).toArray 3)
  have hk := (hv.keep w.heap.size 3 ⟨_, _, hh⟩ (by decide) (by decide)).trans hh
  exact Rd.of_block hk (Array.getElem?_eq_some_iff.1 hk).1 rfl (by simp [ints])
theorem nums_row (base pb : Nat) (l : List UInt8) (xs : List Int) (w : World) (h : PenR w base pb l) (hl : l.length ≤ 100000) (hn : xs.length ≤ 100000) :
    Calls Try.prog 13 #[.pointer (some ⟨pb, 0, none⟩), .slice (some ⟨w.heap.size, 0, none⟩) xs.length xs.length] (w.alloc (.cells (ints xs).toArray 3)) fun e w' => e = .returned (.tuple #[]) ∧ PenR w' base pb (l ++ bytesL xs) ∧ VStep base w w' :=
  have hs := h.size
  (nums_any base pb l xs (some ⟨w.heap.size, 0, none⟩) xs.length xs.length (w.alloc (.cells (ints xs).toArray 3)) (h.next (below1 w _)) hl hn (vrow base w xs)).mono fun _ _ ⟨h1, h2, h3⟩ => ⟨h1, h2, (VStep.of (below1 w _) hs).trans h3⟩
theorem nums1 (base pb : Nat) (l : List UInt8) (x : Int) (w : World) (h : PenR w base pb l) (hl : l.length ≤ 100000) :
    Calls Try.prog 13 #[.pointer (some ⟨pb, 0, none⟩), .slice (some ⟨w.heap.size, 0, none⟩) 1 1] (w.alloc (.cells #[.int .i64 x] 3)) fun e w' => e = .returned (.tuple #[]) ∧ PenR w' base pb (l ++ [byteOf x]) ∧ VStep base w w' :=
  nums_row base pb l [x] w h hl (by simp)
theorem nums2 (base pb : Nat) (l : List UInt8) (x y : Int) (w : World) (h : PenR w base pb l) (hl : l.length ≤ 100000) :
    Calls Try.prog 13 #[.pointer (some ⟨pb, 0, none⟩), .slice (some ⟨w.heap.size, 0, none⟩) 2 2] (w.alloc (.cells #[.int .i64 x, .int .i64 y] 3)) fun e w' => e = .returned (.tuple #[]) ∧ PenR w' base pb (l ++ [byteOf x, byteOf y]) ∧ VStep base w w' :=
  nums_row base pb l [x, y] w h hl (by simp)
/-- Numbers that lie below base. -/
theorem numsR (base pb : Nat) (l : List UInt8) (xs : List Int) (A : Option Addr) (n c B : Nat) (w0 w : World) (h : PenR w base pb l) (hl : l.length ≤ 100000) (hn : n ≤ 100000) (hr : Rd w0 B 1 A n (ints xs)) (hb : Below base w0 w) (hB : B ≤ base) :
    Calls Try.prog 13 #[.pointer (some ⟨pb, 0, none⟩), .slice A n c] w fun e w' => e = .returned (.tuple #[]) ∧ PenR w' base pb (l ++ bytesL xs) ∧ VStep base w w' :=
  nums_any base pb l xs A n c w h hl hn fun W hv => (Rd.below hr (hb.trans hv.below) hB).more (by have := h.size; have := hv.below.size; omega)
end
/-- What Write answers. -/
def wrS (m : Img) : ByteArray := if checkErr m = 0 then ofL (imgB m) else ofL []
set_option maxRecDepth 100000 in
set_option maxHeartbeats 1000000 in
theorem wwrite_any (v : IV) (m : Img) (w : World) (h : ImgR w w.heap.size v m) : Calls Try.prog 5 #[imgV m v] w fun e w' => e = .returned (.tuple #[.string (wrS m), .int .i64 (checkErr m)]) ∧ Below w.heap.size w w' := by
  have KC' := fun W (hb : Below w.heap.size w W) => tcheck_any v m W (h.next hb)
  have hslen := h.slen
  have hplen := h.plen
  have HI := Lib.hid h
  have HX' := Box.new w m.guest v 26
  obtain ⟨rA, rn, rc, sA, sn, sc, fA, fn, fc, pA, pn, pc⟩ := v
  dsimp only [imgV] at KC' HX' hslen hplen ⊢
  have HX := Lib.hid HX'
  have HB1 := below1 w (.cells #[.int .i64 m.guest, .slice rA rn rc, .slice sA sn sc, .slice fA fn fc, .slice pA pn pc] 26)
  have hz : w.heap.size < (w.alloc (.cells #[.int .i64 m.guest, .slice rA rn rc, .slice sA sn sc, .slice fA fn fc, .slice pA pn pc] 26)).heap.size := by simp
  by_cases he : checkErr m = 0
  case neg =>
    have R := Lib.hid (show wrS m = { data := #[] } from by unfold wrS; rw [if_neg he]; rfl)
    have he' : (checkErr m != 0) = true := by simpa using he
    have KC := Lib.hid KC'
    obtain ⟨x0, x1, x2, x3, x4⟩ := HX.out
    dsimp only at x0 x1 x2 x3 x4
    clear HX' KC' h HX
    generalize checkErr m = er at *
    go_enter Try.func5, Try.ntmps5
    go_wp2_with fail
    refine (KC.out _ HB1).mono ?_
    rintro e w2 ⟨rfl, hb⟩
    have T2 := Lib.hid (below_next HB1 hb)
    clear hb HB1 x0 x1 x2 x3 x4 hz KC
    go_wp2_with fail
    go_ret2
    rw [R.out]
    exact ⟨rfl, T2.out⟩
  have R := Lib.hid (show wrS m = ofL (imgB m) from by unfold wrS; rw [if_pos he])
  have SS := sound_of (check_is he).1
  have hcb := SS.cbd
  have h40 := hcb.slots
  have h4p := hcb.snaps
  have hrt := hcb.root
  have HSL := Lib.hid (show ∀ k s, m.slots[k]? = some s → s.data.size ≤ 4 ∧ s.table.length ≤ 4 from fun k s hk => ⟨slotFine_data (List.all_eq_true.1 (slots_all SS.slots) s (List.mem_of_getElem? hk)), hcb.tables s (List.mem_of_getElem? hk)⟩)
  have HPL := Lib.hid (show ∀ k s, m.snaps[k]? = some s → s.name.size ≤ 8 ∧ s.root.length ≤ 4 from fun k s hk => ⟨name_small SS hk, hcb.roots s (List.mem_of_getElem? hk)⟩)
  have LS := Lib.hid (show ∀ k, ((m.slots.take k).flatMap slotB).length ≤ 360 from fun k => by
    have := flatMap_le (f := slotB) (c := 9) (l := m.slots.take k) fun x hx => by
      obtain ⟨j, hj⟩ := List.getElem?_of_mem (List.mem_of_mem_take hx)
      have := HSL.out j x hj
      simp only [slotB, List.length_cons, List.length_append, toL_len, bytesL_len]; omega
    rw [List.length_take] at this
    omega)
  have LP := Lib.hid (show ∀ k, ((m.snaps.take k).flatMap snapB).length ≤ 60 from fun k => by
    have := flatMap_le (f := snapB) (c := 14) (l := m.snaps.take k) fun x hx => by
      obtain ⟨j, hj⟩ := List.getElem?_of_mem (List.mem_of_mem_take hx)
      have := HPL.out j x hj
      simp only [snapB, List.length_cons, List.length_append, toL_len, bytesL_len]; omega
    rw [List.length_take] at this
    omega)
  have hr1 : rn ≤ 4 := by have := h.rlen; dsimp only at this; omega
  rw [he] at KC' ⊢
  have KC := Lib.hid KC'
  obtain ⟨x0, x1, x2, x3, x4⟩ := HX.out
  dsimp only at x0 x1 x2 x3 x4
  clear HX' KC' h SS hcb hrt
  go_enter Try.func5, Try.ntmps5
  go_wp2_with fail
  generalize w.alloc (.cells #[.int .i64 m.guest, .slice rA rn rc, .slice sA sn sc, .slice fA fn fc, .slice pA pn pc] 26) = w1 at *
  refine (KC.out _ HB1).mono ?_
  rintro e w2 ⟨rfl, hb⟩
  have T2 := below_next HB1 hb
  have X2 := Lib.hid (HX.out.keep hb hz)
  have hz2 := Nat.lt_of_lt_of_le hz hb.size
  have P3' : PenR (w2.alloc (.cells #[.slice none 0 0] 42)) w2.heap.size w2.heap.size [] := ⟨Nat.le_refl _, none, 0, heap_alloc_new w2 _, World.ownsRow_nil _ _ _ _⟩
  have B3 := below1 w2 (.cells #[.slice none 0 0] 42)
  have T3 := Lib.hid (below_next T2 B3)
  have X3 := Lib.hid (X2.out.keep B3 hz2)
  have P3 := Lib.hid P3'
  clear hb KC HX P3' x0 x1 x2 x3 x4 X2
  obtain ⟨x0, x1, x2, x3, x4⟩ := X3.out
  dsimp only at x0 x1 x2 x3 x4
  generalize hbase : w2.heap.size = base at *
  have hwb : w.heap.size ≤ base := by omega
  go_upto_region 5 with fail
  generalize w2.alloc (.cells #[.slice none 0 0] 42) = w3 at *
  have K5 := Lib.hid (nums2 base base [] m.guest (sn : Int) w3 P3.out (by simp))
  go_wp2_with fail
  refine K5.out.mono ?_
  rintro e w4 ⟨rfl, hp, hv⟩
  have P4 := Lib.hid (show PenR w4 base base ([byteOf m.guest, byteOf (sn : Int)] ++ (m.slots.take 0).flatMap slotB) from by simpa using hp)
  have V4 := Lib.hid hv
  clear hp hv K5 P3 x0 x1 x2 x3 x4
  obtain ⟨x0, x1, x2, x3, x4⟩ := X3.out.keep V4.out.below hz2
  dsimp only at x0 x1 x2 x3 x4
  go_wp2_with fail
  clear x0 x1 x2 x3 x4
  go_loopw [28] (fun i wr => ∃ k : Nat, k ≤ sn ∧ i = .int .i64 k ∧ PenR wr base base ([byteOf m.guest, byteOf (sn : Int)] ++ (m.slots.take k).flatMap slotB) ∧ VStep base w3 wr) (fun i _ => sn - (intOf i).toNat)
  case atStart => exact ⟨0, Nat.zero_le _, rfl, P4.out, V4.out⟩
  case round =>
    obtain ⟨k, hk, rfl, hp, hv⟩ := hrel
    by_cases hlt : k < sn
    · obtain ⟨b, o, s, tA, tn, tc, rfl, hb, hx, d0, d1, d2, hsv⟩ := HI.out.slots.at_ (k := k) hlt
      have TW := T3.out.trans (hv.below.mono hwb)
      have d0 := (TW.cell (p := ⟨b, o + k * 3, none⟩) hb).trans d0
      have d1 := (TW.cell (p := ⟨b, o + k * 3 + 1, none⟩) hb).trans d1
      have d2 := (TW.cell (p := ⟨b, o + k * 3 + 2, none⟩) hb).trans d2
      obtain ⟨sd, st⟩ := HSL.out k s hx
      have hL := LS.out k
      have HTK := Lib.hid (show [byteOf m.guest, byteOf (sn : Int)] ++ (m.slots.take (k + 1)).flatMap slotB = [byteOf m.guest, byteOf (sn : Int)] ++ (m.slots.take k).flatMap slotB ++ slotB s from by rw [List.take_add_one, hx]; simp)
      have hLL : ([byteOf m.guest, byteOf (sn : Int)] ++ (m.slots.take k).flatMap slotB).length ≤ 400 := by rw [List.length_append]; simp only [List.length_cons, List.length_nil]; omega
      generalize [byteOf m.guest, byteOf (sn : Int)] ++ (m.slots.take k).flatMap slotB = L at *
      have W5 := below1 wr (.cells #[.int .i64 s.kind, .string s.data, .slice tA tn tc] 45)
      have X5 := heap_alloc_new wr (.cells #[.int .i64 s.kind, .string s.data, .slice tA tn tc] 45)
      have c0 := cell_of_row _ _ 0 _ _ _ X5
      simp only [List.getElem?_toArray, List.getElem?_cons_zero] at c0
      have P5 := Lib.hid (hp.next W5)
      have V5 := Lib.hid (hv.trans (VStep.of W5 hp.size))
      have htn : tn ≤ 4 := by have := hsv.table.len; omega
      have HRD := Lib.hid (Rd.below hsv.table T3.out (Nat.le_refl _))
      have e0 : (0 : Int) ≤ (k : Int) := by omega
      have e1 : (k : Int) < (sn : Int) := by omega
      clear W5 hp hv hsv hx hL
      go_upto_region 9 with fail
      clear d0 d1 d2
      generalize wr.alloc (.cells #[.int .i64 s.kind, .string s.data, .slice tA tn tc] 45) = w5 at *
      have K6 := Lib.hid (nums1 base base L s.kind w5 P5.out (by omega))
      go_wp2_with fail
      refine K6.out.mono ?_
      rintro e w6 ⟨rfl, hp6, hv6⟩
      have X6 := (hv6.keep wr.heap.size 45 ⟨_, _, X5⟩ (by decide) (by decide)).trans X5
      have c1 := cell_of_row _ _ 1 _ _ _ X6
      simp only [List.getElem?_toArray, List.getElem?_cons_zero, List.getElem?_cons_succ] at c1
      have K7 := Lib.hid (text_any base base (L ++ [byteOf s.kind]) s.data w6 hp6 (by rw [List.length_append]; simp only [List.length_cons, List.length_nil]; omega) (by omega))
      have V6 := Lib.hid (V5.out.trans hv6)
      clear c0 X5 K6 P5 V5 hp6 hv6
      go_wp2_with fail
      refine K7.out.mono ?_
      rintro e w7 ⟨rfl, hp7, hv7⟩
      have X7 := (hv7.keep wr.heap.size 45 ⟨_, _, X6⟩ (by decide) (by decide)).trans X6
      have c2 := cell_of_row _ _ 2 _ _ _ X7
      simp only [List.getElem?_toArray, List.getElem?_cons_zero, List.getElem?_cons_succ] at c2
      have V7 := Lib.hid (V6.out.trans hv7)
      have K8 := Lib.hid (numsR base base (L ++ [byteOf s.kind] ++ toL s.data) s.table tA tn tc w.heap.size w3 w7 hp7 (by rw [List.length_append, List.length_append, toL_len]; simp only [List.length_cons, List.length_nil]; omega) (by omega) HRD.out V7.out.below hwb)
      clear c1 X6 K7 V6 hp7 hv7
      go_wp2_with fail
      refine K8.out.mono ?_
      rintro e w8 ⟨rfl, hp8, hv8⟩
      have P8 := Lib.hid (show PenR w8 base base (L ++ slotB s) from by rw [show L ++ slotB s = L ++ [byteOf s.kind] ++ toL s.data ++ bytesL s.table from by simp [slotB]]; exact hp8)
      have V8 := Lib.hid (V7.out.trans hv8)
      clear c2 X7 K8 V7 hp8 hv8 HRD
      go_wp2_with fail
      go_roundw
      case rel => exact ⟨k + 1, by omega, by go_num, by rw [HTK.out]; exact P8.out, V8.out⟩
      case measure => simp [intOf]; omega
    · obtain rfl : k = sn := by omega
      rw [List.take_of_length_le (by omega)] at hp
      have hL := LS.out k
      rw [List.take_of_length_le (by omega)] at hL
      have P9 := Lib.hid hp
      have V9 := Lib.hid hv
      obtain ⟨x0, x1, x2, x3, x4⟩ := X3.out.keep hv.below hz2
      dsimp only at x0 x1 x2 x3 x4
      have hLL : ([byteOf m.guest, byteOf (k : Int)] ++ m.slots.flatMap slotB).length ≤ 400 := by rw [List.length_append]; simp only [List.length_cons, List.length_nil]; omega
      have RR := Lib.hid (show imgB m = [byteOf m.guest, byteOf (k : Int)] ++ m.slots.flatMap slotB ++ [byteOf (pn : Int)] ++ m.snaps.flatMap snapB ++ bytesL m.root from by unfold imgB; rw [hslen, hplen]; simp)
      generalize [byteOf m.guest, byteOf (k : Int)] ++ m.slots.flatMap slotB = L at *
      have K9 := Lib.hid (nums1 base base L (pn : Int) wr P9.out (by omega))
      clear hp hv P4 V4 HSL LS hlt hk hL
      go_wp2_with fail
      refine K9.out.mono ?_
      rintro e w10 ⟨rfl, hp, hv⟩
      have P10 := Lib.hid (show PenR w10 base base (L ++ [byteOf (pn : Int)] ++ (m.snaps.take 0).flatMap snapB) from by simpa using hp)
      have V10 := Lib.hid (V9.out.trans hv)
      have hL2 : (L ++ [byteOf (pn : Int)]).length ≤ 401 := by rw [List.length_append]; simp only [List.length_cons, List.length_nil]; omega
      clear hp hv K9 P9 V9 x0 x1 x2 x3 x4 hLL
      obtain ⟨x0, x1, x2, x3, x4⟩ := X3.out.keep V10.out.below hz2
      dsimp only at x0 x1 x2 x3 x4
      generalize L ++ [byteOf (pn : Int)] = L at *
      go_wp2_with fail
      clear x0 x1 x2 x3 x4
      go_loopw [55] (fun i wr => ∃ k : Nat, k ≤ pn ∧ i = .int .i64 k ∧ PenR wr base base (L ++ (m.snaps.take k).flatMap snapB) ∧ VStep base w3 wr) (fun i _ => pn - (intOf i).toNat)
      case atStart => exact ⟨0, Nat.zero_le _, rfl, P10.out, V10.out⟩
      case round =>
        obtain ⟨y, hk, rfl, hp, hv⟩ := hrel
        clear P10 V10
        by_cases hlt : y < pn
        · obtain ⟨b, o, s, tA, tn, tc, rfl, hb, hx, d0, d1, d2, hsv⟩ := HI.out.snaps.at_ (k := y) hlt
          have TW := T3.out.trans (hv.below.mono hwb)
          have d0 := (TW.cell (p := ⟨b, o + y * 3, none⟩) hb).trans d0
          have d1 := (TW.cell (p := ⟨b, o + y * 3 + 1, none⟩) hb).trans d1
          have d2 := (TW.cell (p := ⟨b, o + y * 3 + 2, none⟩) hb).trans d2
          obtain ⟨sd, st⟩ := HPL.out y s hx
          have hL := LP.out y
          have HTK := Lib.hid (show L ++ (m.snaps.take (y + 1)).flatMap snapB = L ++ (m.snaps.take y).flatMap snapB ++ snapB s from by rw [List.take_add_one, hx]; simp)
          have hLL : (L ++ (m.snaps.take y).flatMap snapB).length ≤ 500 := by rw [List.length_append]; omega
          generalize L ++ (m.snaps.take y).flatMap snapB = L1 at *
          have W5 := below1 wr (.cells #[.string s.name, .int .i64 s.guest, .slice tA tn tc] 48)
          have X5 := heap_alloc_new wr (.cells #[.string s.name, .int .i64 s.guest, .slice tA tn tc] 48)
          have c0 := cell_of_row _ _ 0 _ _ _ X5
          simp only [List.getElem?_toArray, List.getElem?_cons_zero] at c0
          have P5 := Lib.hid (hp.next W5)
          have V5 := Lib.hid (hv.trans (VStep.of W5 hp.size))
          have htn : tn ≤ 4 := by have := hsv.root.len; omega
          have HRD := Lib.hid (Rd.below hsv.root T3.out (Nat.le_refl _))
          have e0 : (0 : Int) ≤ (y : Int) := by omega
          have e1 : (y : Int) < (pn : Int) := by omega
          clear W5 hp hv hsv hx hL
          go_upto_region 17 with fail
          clear d0 d1 d2
          generalize wr.alloc (.cells #[.string s.name, .int .i64 s.guest, .slice tA tn tc] 48) = w5 at *
          have K6 := Lib.hid (nums1 base base L1 (s.name.size : Int) w5 P5.out (by omega))
          go_wp2_with fail
          refine K6.out.mono ?_
          rintro e w6 ⟨rfl, hp6, hv6⟩
          have X6 := (hv6.keep wr.heap.size 48 ⟨_, _, X5⟩ (by decide) (by decide)).trans X5
          have c1 := cell_of_row _ _ 0 _ _ _ X6
          simp only [List.getElem?_toArray, List.getElem?_cons_zero] at c1
          have K7 := Lib.hid (text_any base base (L1 ++ [byteOf (s.name.size : Int)]) s.name w6 hp6 (by rw [List.length_append]; simp only [List.length_cons, List.length_nil]; omega) (by omega))
          have V6 := Lib.hid (V5.out.trans hv6)
          clear c0 X5 K6 P5 V5 hp6 hv6
          go_wp2_with fail
          refine K7.out.mono ?_
          rintro e w7 ⟨rfl, hp7, hv7⟩
          have X7 := (hv7.keep wr.heap.size 48 ⟨_, _, X6⟩ (by decide) (by decide)).trans X6
          have c2 := cell_of_row _ _ 1 _ _ _ X7
          simp only [List.getElem?_toArray, List.getElem?_cons_zero, List.getElem?_cons_succ] at c2
          have V7 := Lib.hid (V6.out.trans hv7)
          have hl7 : (L1 ++ [byteOf (s.name.size : Int)] ++ toL s.name).length ≤ 600 := by rw [List.length_append, List.length_append, toL_len]; simp only [List.length_cons, List.length_nil]; omega
          have K8 := Lib.hid (nums1 base base (L1 ++ [byteOf (s.name.size : Int)] ++ toL s.name) s.guest w7 hp7 (by omega))
          clear c1 X6 K7 V6 hp7 hv7
          go_wp2_with fail
          refine K8.out.mono ?_
          rintro e w8 ⟨rfl, hp8, hv8⟩
          have X8 := (hv8.keep wr.heap.size 48 ⟨_, _, X7⟩ (by decide) (by decide)).trans X7
          have c3 := cell_of_row _ _ 2 _ _ _ X8
          simp only [List.getElem?_toArray, List.getElem?_cons_zero, List.getElem?_cons_succ] at c3
          have V8 := Lib.hid (V7.out.trans hv8)
          have K9 := Lib.hid (numsR base base (L1 ++ [byteOf (s.name.size : Int)] ++ toL s.name ++ [byteOf s.guest]) s.root tA tn tc w.heap.size w3 w8 hp8 (by rw [List.length_append]; simp only [List.length_cons, List.length_nil]; omega) (by omega) HRD.out V8.out.below hwb)
          clear c2 X7 K8 V7 hp8 hv8
          go_wp2_with fail
          refine K9.out.mono ?_
          rintro e w9 ⟨rfl, hp9, hv9⟩
          have P9 := Lib.hid (show PenR w9 base base (L1 ++ snapB s) from by rw [show L1 ++ snapB s = L1 ++ [byteOf (s.name.size : Int)] ++ toL s.name ++ [byteOf s.guest] ++ bytesL s.root from by simp [snapB]]; exact hp9)
          have V9 := Lib.hid (V8.out.trans hv9)
          clear c3 X8 K9 V8 hp9 hv9 HRD
          go_wp2_with fail
          go_roundw
          case rel => exact ⟨y + 1, by omega, by go_num, by rw [HTK.out]; exact P9.out, V9.out⟩
          case measure => simp [intOf]; omega
        · obtain rfl : y = pn := by omega
          rw [List.take_of_length_le (by omega)] at hp
          have hL := LP.out y
          rw [List.take_of_length_le (by omega)] at hL
          obtain ⟨x0, x1, x2, x3, x4⟩ := X3.out.keep hv.below hz2
          dsimp only at x0 x1 x2 x3 x4
          have HRD := Rd.below HI.out.root T3.out (Nat.le_refl _)
          have K9 := Lib.hid (numsR base base (L ++ m.snaps.flatMap snapB) m.root rA rn rc w.heap.size w3 wr hp (by rw [List.length_append]; omega) (by omega) HRD hv.below hwb)
          have V9 := Lib.hid hv
          clear hp hv HPL LP hlt hk hL HRD
          go_wp2_with fail
          refine K9.out.mono ?_
          rintro e w10 ⟨rfl, hp, hv⟩
          rw [← RR.out] at hp
          obtain ⟨A, c, h1, h2⟩ := hp.box
          have hcv := own_str h2 (by unfold imgB; simp)
          have cp := cell_of_row _ _ 0 _ _ _ h1
          simp only [List.getElem?_toArray, List.getElem?_cons_zero] at cp
          have TE := Lib.hid (T3.out.trans ((V9.out.trans hv).below.mono hwb))
          clear K9 V9 hp hv h1 h2 x0 x1 x2 x3 x4
          generalize (imgB m).length = z at *
          go_wp2_with fail
          go_ret2
          rw [R.out]
          exact ⟨rfl, TE.out⟩
section
variable {w : World} {base n c : Nat} {A : Option Addr} {l : List UInt8}
theorem row_one (h : w.ownsRow base 5 1 (.slice A n c) n (u8s l)) (x : Int) (hn : n ≤ 100000) (hb : base ≤ w.heap.size) :
    ∃ A' c' w', (Builtin.append_ #[40, 40] 40 #[.slice A n c, .slice (some ⟨w.heap.size, 0, none⟩) 1 1]).run Try.prog (w.alloc (.cells #[.int .u8 (x % 256)] 5)) = .ok (.slice A' (n + 1) c') w' ∧
      w'.ownsRow base 5 1 (.slice A' (n + 1) c') (n + 1) (u8s (l ++ [byteOf x])) ∧ VStep base w w' := by
  obtain ⟨i0, hi0, hz0, hz1, hz2⟩ := info_parts Try.infoU8
  obtain ⟨A', c', w', r1, r2, _, _, _, r6, _⟩ := app_one (P := Try.prog) w base 40 40 5 i0 _ 1 1 Try.underlying40 hi0 hz0 hz1 hz2 rfl (by omega) _ _ _ h #[.int .u8 (x % 256)] rfl (by intro u hu; simp at hu; subst hu; rfl) (by omega) (by unfold maxLen; omega) hb
  have b1 := below1 w (.cells #[.int .u8 (x % 256)] 5)
  have h1 := own_below h b1
  refine ⟨A', c', w', r1, ?_, (VStep.of b1 hb).trans (VStep.grown (T := 5) r6 (by have := b1.size; omega) (fun k hk => ⟨(h1.lt k hk).1, own_block h1 hk⟩) (.inl rfl))⟩
  rw [u8s_app, show u8s [byteOf x] = [.int .u8 (x % 256)] from by simp [u8s, byteOf_mod]]; exact r2
theorem row_str (h : w.ownsRow base 5 1 (.slice A n c) n (u8s l)) (s : ByteArray) (hn : n ≤ 100000) (hs : s.size ≤ 100000) (hb : base ≤ w.heap.size) :
    ∃ A' c' w', (Builtin.append_ #[40, 9] 40 #[.slice A n c, .string s]).run Try.prog w = .ok (.slice A' (n + s.size) c') w' ∧
      w'.ownsRow base 5 1 (.slice A' (n + s.size) c') (n + s.size) (u8s (l ++ toL s)) ∧ VStep base w w' := by
  obtain ⟨i0, hi0, hz0, hz1, hz2⟩ := info_parts Try.infoU8
  obtain ⟨v', w', r1, r2, r3, _⟩ := Lib.run_append_own_string (P := Try.prog) w base 40 9 40 5 i0 Try.underlying40 Try.underlying9 hi0 hz0 hz1 hz2 _ _ _ h s (by unfold maxLen; omega) (by omega) hb
  obtain ⟨A', c', rfl, _, _⟩ := own_form r2
  exact ⟨A', c', w', r1, by rw [u8s_app]; exact r2, VStep.grown (T := 5) r3 hb (fun k hk => ⟨(h.lt k hk).1, own_block h hk⟩) (.inl rfl)⟩
theorem row_row (h : w.ownsRow base 5 1 (.slice A n c) n (u8s l)) {B : Option Addr} {k d : Nat} {l2 : List UInt8} (h2 : Rd w w.heap.size 1 B k (u8s l2)) (hn : n ≤ 100000) (hk : k ≤ 100000) (hb : base ≤ w.heap.size) :
    ∃ A' c' w', (Builtin.append_ #[40, 40] 40 #[.slice A n c, .slice B k d]).run Try.prog w = .ok (.slice A' (n + k) c') w' ∧
      w'.ownsRow base 5 1 (.slice A' (n + k) c') (n + k) (u8s (l ++ l2)) ∧ VStep base w w' := by
  obtain ⟨i0, hi0, hz0, hz1, hz2⟩ := info_parts Try.infoU8
  obtain ⟨A', c', w', r1, r2, _, _, _, r6, _⟩ := run_app (P := Try.prog) w base 40 40 5 i0 _ 1 1 Try.underlying40 hi0 hz0 hz1 hz2 rfl (by omega) _ _ _ h w.heap.size B k d _ h2 (u8s_one l2) (by omega) (by unfold maxLen; omega) hb
  exact ⟨A', c', w', r1, by rw [u8s_app]; exact r2, VStep.grown (T := 5) r6 hb (fun k hk => ⟨(h.lt k hk).1, own_block h hk⟩) (.inl rfl)⟩
end
set_option maxRecDepth 100000 in
set_option maxHeartbeats 1000000 in
theorem bytesOf_any (A : Option Addr) (n c : Nat) (xs : List Int) (w : World) (hr : Rd w w.heap.size 1 A n (ints xs)) (hn : n ≤ 1000) :
    Calls Try.prog 17 #[.slice A n c] w fun e w' => ∃ A' c', e = .returned (.slice A' n c') ∧ w'.ownsRow w.heap.size 5 1 (.slice A' n c') n (u8s (bytesL xs)) ∧ Below w.heap.size w w' := by
  have hxl : xs.length = n := hr.len
  go_enter Try.func17, Try.ntmps17
  go_wp2_with fail
  go_loopw [3, 4] (fun o i wr => ∃ (k c' : Nat) (A' : Option Addr), k ≤ n ∧ i = .int .i64 k ∧ o = .slice A' k c' ∧ wr.ownsRow w.heap.size 5 1 (.slice A' k c') k (u8s (bytesL (xs.take k))) ∧ Below w.heap.size w wr) (fun _ i _ => n - (intOf i).toNat)
  case atStart => exact ⟨0, 0, none, Nat.zero_le _, rfl, rfl, World.ownsRow_nil _ _ _ _, Below.refl _ _⟩
  case round =>
    obtain ⟨k, c', A', hk, rfl, rfl, ho, hb⟩ := hrel
    by_cases hlt : k < n
    · obtain ⟨b, o, x, rfl, hbl, hx, cx⟩ := (Rd.next hr hb).at1 hlt
      have e0 : (0 : Int) ≤ (k : Int) := by omega
      have e1 : (k : Int) < (n : Int) := by omega
      have HTK := Lib.hid (show bytesL (xs.take (k + 1)) = bytesL (xs.take k) ++ [byteOf x] from by rw [List.take_add_one, hx]; simp [bytesL])
      obtain ⟨A2, c2, w4, q1, q2, q3⟩ := row_one ho x (by omega) hb.size
      have HR := Lib.hid q1
      have HO := Lib.hid q2
      have HB := Lib.hid (hb.trans q3.below)
      clear q1 q2 q3 ho hx
      go_wp2_with (at_builtin; refine wpList_app rfl _ _ _ _ rfl rfl rfl rfl HR.out ?_)
      go_roundw
      case rel => exact ⟨k + 1, c2, A2, by omega, by go_num, rfl, by rw [HTK.out]; exact HO.out, HB.out⟩
      case measure => simp [intOf]; omega
    · obtain rfl : k = n := by omega
      rw [List.take_of_length_le (by omega)] at ho
      go_wp2_with fail
      go_ret
      exact ⟨A', c', rfl, ho, hb⟩
set_option maxRecDepth 100000 in
set_option maxHeartbeats 1000000 in
theorem imageBytes_any (v : IV) (m : Img) (w : World) (h : ImgR w w.heap.size v m) (he : checkErr m = 0) : Calls Try.prog 7 #[imgV m v] w fun e w' => e = .returned (.string (ofL (imgB m))) ∧ Below w.heap.size w w' := by
  have hslen := h.slen
  have hplen := h.plen
  have HI := Lib.hid h
  have HX' := Box.new w m.guest v 26
  obtain ⟨rA, rn, rc, sA, sn, sc, fA, fn, fc, pA, pn, pc⟩ := v
  dsimp only [imgV] at HX' hslen hplen ⊢
  have HX := Lib.hid HX'
  have HB1 := below1 w (.cells #[.int .i64 m.guest, .slice rA rn rc, .slice sA sn sc, .slice fA fn fc, .slice pA pn pc] 26)
  have hz : w.heap.size < (w.alloc (.cells #[.int .i64 m.guest, .slice rA rn rc, .slice sA sn sc, .slice fA fn fc, .slice pA pn pc] 26)).heap.size := by simp
  have SS := sound_of (check_is he).1
  have hcb := SS.cbd
  have h40 := hcb.slots
  have h4p := hcb.snaps
  have HSL := Lib.hid (show ∀ k s, m.slots[k]? = some s → s.data.size ≤ 4 ∧ s.table.length ≤ 4 from fun k s hk => ⟨slotFine_data (List.all_eq_true.1 (slots_all SS.slots) s (List.mem_of_getElem? hk)), hcb.tables s (List.mem_of_getElem? hk)⟩)
  have HPL := Lib.hid (show ∀ k s, m.snaps[k]? = some s → s.name.size ≤ 8 ∧ s.root.length ≤ 4 from fun k s hk => ⟨name_small SS hk, hcb.roots s (List.mem_of_getElem? hk)⟩)
  have hr1 : rn ≤ 4 := by have := h.rlen; dsimp only at this; have := hcb.root; omega
  have hR := h.root
  clear HX' h SS hcb he
  go_enter Try.func7, Try.ntmps7
  go_upto_region 1 with fail
  generalize w.alloc (.cells #[.int .i64 m.guest, .slice rA rn rc, .slice sA sn sc, .slice fA fn fc, .slice pA pn pc] 26) = w1 at *
  obtain ⟨x0, x1, x2, x3, x4⟩ := HX.out
  dsimp only at x0 x1 x2 x3 x4
  have O2' : (w1.alloc (.cells #[.int .u8 (m.guest % 256), .int .u8 (sn : Int)] 5)).ownsRow w1.heap.size 5 1 (.slice (some ⟨w1.heap.size, 0, none⟩) 2 2) 2 (u8s ([byteOf m.guest, byteOf (sn : Int)] ++ (m.slots.take 0).flatMap slotB)) := by
    have := own_of_block (base := w1.heap.size) (n := 2) (heap_alloc_new w1 (.cells [Value.int .u8 (m.guest % 256), Value.int .u8 (sn : Int)].toArray 5)) (Nat.le_refl _) rfl (by decide)
    have e1 : (sn : Int) % 256 = sn := by omega
    simpa [u8s, byteOf_mod, e1] using this
  have V2' : VStep w1.heap.size w1 (w1.alloc (.cells #[.int .u8 (m.guest % 256), .int .u8 (sn : Int)] 5)) := VStep.of (below1 w1 _) (Nat.le_refl _)
  have O2 := Lib.hid O2'
  have V2 := Lib.hid V2'
  clear O2' V2'
  go_wp2_with fail
  generalize w1.alloc (.cells #[.int .u8 (m.guest % 256), .int .u8 (sn : Int)] 5) = w2 at *
  clear x0 x1 x2 x3 x4
  go_loopw [3, 4] (fun o i wr => ∃ (k q c : Nat) (A : Option Addr) (L : List UInt8), k ≤ sn ∧ i = .int .i64 k ∧ o = .slice A q c ∧ L = [byteOf m.guest, byteOf (sn : Int)] ++ (m.slots.take k).flatMap slotB ∧ q ≤ 2 + 9 * k ∧ wr.ownsRow w1.heap.size 5 1 (.slice A q c) q (u8s L) ∧ VStep w1.heap.size w1 wr) (fun _ i _ => sn - (intOf i).toNat)
  case atStart => exact ⟨0, 2, 2, _, _, Nat.zero_le _, rfl, rfl, rfl, Nat.le_refl _, O2.out, V2.out⟩
  case round =>
    obtain ⟨k, q, c, A, L, hk, rfl, rfl, hLd, hq, ho, hv⟩ := hrel
    have TW := HB1.trans (hv.below.mono (Nat.le_of_lt hz))
    obtain ⟨x0, x1, x2, x3, x4⟩ := HX.out.keep hv.below hz
    dsimp only at x0 x1 x2 x3 x4
    by_cases hlt : k < sn
    · obtain ⟨b, o, s, tA, tn, tc, rfl, hb, hx, d0, d1, d2, hsv⟩ := HI.out.slots.at_ (k := k) hlt
      have d0 := (TW.cell (p := ⟨b, o + k * 3, none⟩) hb).trans d0
      have d1 := (TW.cell (p := ⟨b, o + k * 3 + 1, none⟩) hb).trans d1
      have d2 := (TW.cell (p := ⟨b, o + k * 3 + 2, none⟩) hb).trans d2
      obtain ⟨sd, st⟩ := HSL.out k s hx
      have HTK := Lib.hid (show L ++ slotB s = [byteOf m.guest, byteOf (sn : Int)] ++ (m.slots.take (k + 1)).flatMap slotB from by rw [hLd, List.take_add_one, hx]; simp)
      have W5 := below1 wr (.cells #[.int .i64 s.kind, .string s.data, .slice tA tn tc] 45)
      have X5 := heap_alloc_new wr (.cells #[.int .i64 s.kind, .string s.data, .slice tA tn tc] 45)
      have c0 := cell_of_row _ _ 0 _ _ _ X5
      simp only [List.getElem?_toArray, List.getElem?_cons_zero] at c0
      have O5 := Lib.hid (own_below ho W5)
      have hws := Nat.le_trans hv.below.size W5.size
      have V5 := Lib.hid (hv.trans (VStep.of W5 hv.below.size))
      have htl := hsv.table.len
      have HRD := Lib.hid (Rd.below hsv.table HB1 (Nat.le_refl _))
      have e0 : (0 : Int) ≤ (k : Int) := by omega
      have e1 : (k : Int) < (sn : Int) := by omega
      clear W5 ho hv hsv hx hLd TW
      go_upto_region 6 with fail
      clear d0 d1 d2
      generalize wr.alloc (.cells #[.int .i64 s.kind, .string s.data, .slice tA tn tc] 45) = w5 at *
      obtain ⟨A6, c6, w6, q1, q2, q3⟩ := row_one O5.out s.kind (by omega) hws
      have HR := Lib.hid q1
      have X6 := (q3.keep wr.heap.size 45 ⟨_, _, X5⟩ (by decide) (by decide)).trans X5
      have c1 := cell_of_row _ _ 1 _ _ _ X6
      have c2 := cell_of_row _ _ 2 _ _ _ X6
      simp only [List.getElem?_toArray, List.getElem?_cons_zero, List.getElem?_cons_succ] at c1 c2
      obtain ⟨A7, c7, w7, t1, t2, t3⟩ := row_str q2 s.data (by omega) (by omega) (Nat.le_trans hws q3.below.size)
      have HR7 := Lib.hid t1
      have X7 := (t3.keep wr.heap.size 45 ⟨_, _, X6⟩ (by decide) (by decide)).trans X6
      have c3 := cell_of_row _ _ 2 _ _ _ X7
      simp only [List.getElem?_toArray, List.getElem?_cons_zero, List.getElem?_cons_succ] at c3
      have V7 := Lib.hid (V5.out.trans (q3.trans t3))
      have O7 := Lib.hid t2
      have h7 := V7.out.below.size
      have K8 := Lib.hid (bytesOf_any tA tn tc s.table w7 ((Rd.below HRD.out V7.out.below (Nat.le_of_lt hz)).more (by omega)) (by omega))
      clear q1 q2 q3 t1 t2 t3 X5 X6 X7 O5 V5 HRD hws
      go_upto_region 7 with (at_builtin; refine wpList_app rfl _ _ _ _ rfl rfl rfl rfl HR.out ?_)
      clear c0 HR x0 x1 x2 x3 x4 c2
      go_upto_region 8 with (at_builtin; refine wpList_appT rfl _ _ _ _ _ rfl rfl rfl rfl HR7.out ?_)
      clear c1 HR7
      go_wp2_with fail
      refine K8.out.mono ?_
      rintro e w8 ⟨A8, c8, rfl, ho8, hb8⟩
      obtain ⟨A9, c9, w9, t1, t2, t3⟩ := row_row (d := c8) (own_below O7.out hb8) (Rd.of_own ho8) (by omega) (by omega) (by have := hb8.size; omega)
      have HR9 := Lib.hid t1
      have O9 := Lib.hid (show w9.ownsRow w1.heap.size 5 1 (.slice A9 (q + 1 + s.data.size + tn) c9) (q + 1 + s.data.size + tn) (u8s (L ++ slotB s)) from by rw [show L ++ slotB s = L ++ [byteOf s.kind] ++ toL s.data ++ bytesL s.table from by simp [slotB]]; exact t2)
      have V9 := Lib.hid (V7.out.trans ((VStep.of hb8 h7).trans t3))
      clear t1 t2 t3 K8 O7 V7 ho8 hb8 c3
      go_wp2_with (at_builtin; refine wpList_app rfl _ _ _ _ rfl rfl rfl rfl HR9.out ?_)
      go_roundw
      case rel => exact ⟨k + 1, q + 1 + s.data.size + tn, c9, A9, L ++ slotB s, by omega, by go_num, rfl, HTK.out, by omega, O9.out, V9.out⟩
      case measure => simp [intOf]; omega
    · obtain rfl : k = sn := by omega
      rw [List.take_of_length_le (by omega)] at hLd
      have RR := Lib.hid (show imgB m = L ++ [byteOf (pn : Int)] ++ m.snaps.flatMap snapB ++ bytesL m.root from by rw [hLd]; unfold imgB; rw [hslen, hplen]; simp)
      obtain ⟨A6, c6, w6, q1, q2, q3⟩ := row_one ho (pn : Int) (by omega) hv.below.size
      rw [show (pn : Int) % 256 = pn from by omega] at q1
      have HR := Lib.hid q1
      have O6 := Lib.hid (show w6.ownsRow w1.heap.size 5 1 (.slice A6 (q + 1) c6) (q + 1) (u8s (L ++ [byteOf (pn : Int)] ++ (m.snaps.take 0).flatMap snapB)) from by simpa using q2)
      have V6 := Lib.hid (hv.trans q3)
      clear q1 q2 q3 ho hv hLd TW O2 V2 HSL
      go_wp2_with (at_builtin; refine wpList_app rfl _ _ _ _ rfl rfl rfl rfl HR.out ?_)
      clear x0 x1 x2 x3 x4 HR
      generalize L ++ [byteOf (pn : Int)] = L at *
      go_loopw [3, 6] (fun o i wr => ∃ (y r c : Nat) (A : Option Addr) (M : List UInt8), y ≤ pn ∧ i = .int .i64 y ∧ o = .slice A r c ∧ M = L ++ (m.snaps.take y).flatMap snapB ∧ r ≤ q + 1 + 14 * y ∧ wr.ownsRow w1.heap.size 5 1 (.slice A r c) r (u8s M) ∧ VStep w1.heap.size w1 wr) (fun _ i _ => pn - (intOf i).toNat)
      case atStart => exact ⟨0, q + 1, c6, A6, _, Nat.zero_le _, rfl, rfl, rfl, Nat.le_refl _, O6.out, V6.out⟩
      case round =>
        clear O6 V6
        obtain ⟨y, r, c, A, M, hy, rfl, rfl, hMd, hr, ho, hv⟩ := hrel
        have TW := HB1.trans (hv.below.mono (Nat.le_of_lt hz))
        obtain ⟨x0, x1, x2, x3, x4⟩ := HX.out.keep hv.below hz
        dsimp only at x0 x1 x2 x3 x4
        by_cases hlt : y < pn
        · obtain ⟨b, o, s, tA, tn, tc, rfl, hb, hx, d0, d1, d2, hsv⟩ := HI.out.snaps.at_ (k := y) hlt
          have d0 := (TW.cell (p := ⟨b, o + y * 3, none⟩) hb).trans d0
          have d1 := (TW.cell (p := ⟨b, o + y * 3 + 1, none⟩) hb).trans d1
          have d2 := (TW.cell (p := ⟨b, o + y * 3 + 2, none⟩) hb).trans d2
          obtain ⟨sd, st⟩ := HPL.out y s hx
          have HTK := Lib.hid (show M ++ snapB s = L ++ (m.snaps.take (y + 1)).flatMap snapB from by rw [hMd, List.take_add_one, hx]; simp)
          have W5 := below1 wr (.cells #[.string s.name, .int .i64 s.guest, .slice tA tn tc] 48)
          have X5 := heap_alloc_new wr (.cells #[.string s.name, .int .i64 s.guest, .slice tA tn tc] 48)
          have c0 := cell_of_row _ _ 0 _ _ _ X5
          simp only [List.getElem?_toArray, List.getElem?_cons_zero] at c0
          have O5 := Lib.hid (own_below ho W5)
          have hws := Nat.le_trans hv.below.size W5.size
          have V5 := Lib.hid (hv.trans (VStep.of W5 hv.below.size))
          have htl := hsv.root.len
          have HRD := Lib.hid (Rd.below hsv.root HB1 (Nat.le_refl _))
          have e0 : (0 : Int) ≤ (y : Int) := by omega
          have e1 : (y : Int) < (pn : Int) := by omega
          clear W5 ho hv hsv hx hMd TW
          go_upto_region 14 with fail
          clear d0 d1 d2
          generalize wr.alloc (.cells #[.string s.name, .int .i64 s.guest, .slice tA tn tc] 48) = w5 at *
          obtain ⟨A6, c6, w6, q1, q2, q3⟩ := row_one O5.out (s.name.size : Int) (by omega) hws
          rw [show (s.name.size : Int) % 256 = s.name.size from by omega] at q1
          have HR := Lib.hid q1
          have X6 := (q3.keep wr.heap.size 48 ⟨_, _, X5⟩ (by decide) (by decide)).trans X5
          have c1 := cell_of_row _ _ 0 _ _ _ X6
          simp only [List.getElem?_toArray, List.getElem?_cons_zero] at c1
          obtain ⟨A7, c7, w7, t1, t2, t3⟩ := row_str q2 s.name (by omega) (by omega) (Nat.le_trans hws q3.below.size)
          have HR7 := Lib.hid t1
          have X7 := (t3.keep wr.heap.size 48 ⟨_, _, X6⟩ (by decide) (by decide)).trans X6
          have c2 := cell_of_row _ _ 1 _ _ _ X7
          simp only [List.getElem?_toArray, List.getElem?_cons_zero, List.getElem?_cons_succ] at c2
          have hs7 := Nat.le_trans (Nat.le_trans hws q3.below.size) t3.below.size
          obtain ⟨A8, c8, w8, u1, u2, u3⟩ := row_one t2 s.guest (by omega) hs7
          have HR8 := Lib.hid u1
          have X8 := (u3.keep wr.heap.size 48 ⟨_, _, X7⟩ (by decide) (by decide)).trans X7
          have c3 := cell_of_row _ _ 2 _ _ _ X8
          simp only [List.getElem?_toArray, List.getElem?_cons_zero, List.getElem?_cons_succ] at c3
          have V8 := Lib.hid (V5.out.trans ((q3.trans t3).trans u3))
          have O8 := Lib.hid u2
          have h8 := V8.out.below.size
          have K8 := Lib.hid (bytesOf_any tA tn tc s.root w8 ((Rd.below HRD.out V8.out.below (Nat.le_of_lt hz)).more (by omega)) (by omega))
          clear q1 q2 q3 t1 t2 t3 u1 u2 u3 X5 X6 X7 X8 O5 V5 HRD hws hs7
          go_upto_region 15 with (at_builtin; refine wpList_app rfl _ _ _ _ rfl rfl rfl rfl HR.out ?_)
          clear c0 HR x0 x1 x2 x3 x4
          go_upto_region 16 with (at_builtin; refine wpList_appT rfl _ _ _ _ _ rfl rfl rfl rfl HR7.out ?_)
          clear c1 HR7
          go_upto_region 17 with (at_builtin; refine wpList_app rfl _ _ _ _ rfl rfl rfl rfl HR8.out ?_)
          clear c2 HR8
          go_wp2_with fail
          refine K8.out.mono ?_
          rintro e w9 ⟨A9, c9, rfl, ho9, hb9⟩
          obtain ⟨Az, cz, wz, t1, t2, t3⟩ := row_row (d := c9) (own_below O8.out hb9) (Rd.of_own ho9) (by omega) (by omega) (by have := hb9.size; omega)
          have HRz := Lib.hid t1
          have Oz := Lib.hid (show wz.ownsRow w1.heap.size 5 1 (.slice Az (r + 1 + s.name.size + 1 + tn) cz) (r + 1 + s.name.size + 1 + tn) (u8s (M ++ snapB s)) from by rw [show M ++ snapB s = M ++ [byteOf (s.name.size : Int)] ++ toL s.name ++ [byteOf s.guest] ++ bytesL s.root from by simp [snapB]]; exact t2)
          have Vz := Lib.hid (V8.out.trans ((VStep.of hb9 h8).trans t3))
          clear t1 t2 t3 K8 O8 V8 ho9 hb9 c3
          go_wp2_with (at_builtin; refine wpList_app rfl _ _ _ _ rfl rfl rfl rfl HRz.out ?_)
          go_roundw
          case rel => exact ⟨y + 1, r + 1 + s.name.size + 1 + tn, cz, Az, M ++ snapB s, by omega, by go_num, rfl, HTK.out, by omega, Oz.out, Vz.out⟩
          case measure => simp [intOf]; omega
        · obtain rfl : y = pn := by omega
          rw [List.take_of_length_le (by omega)] at hMd
          have RM := Lib.hid (show imgB m = M ++ bytesL m.root from by rw [RR.out, hMd])
          have h8 := hv.below.size
          have hrl := hR.len
          have K8 := Lib.hid (bytesOf_any rA rn rc m.root wr ((Rd.below (Rd.below hR HB1 (Nat.le_refl _)) hv.below (Nat.le_of_lt hz)).more (by omega)) (by omega))
          have O8 := Lib.hid ho
          have V8 := Lib.hid hv
          clear ho hv TW hMd RR HPL
          go_wp2_with fail
          refine K8.out.mono ?_
          rintro e w9 ⟨A9, c9, rfl, ho9, hb9⟩
          obtain ⟨Az, cz, wz, t1, t2, t3⟩ := row_row (d := c9) (own_below O8.out hb9) (Rd.of_own ho9) (by omega) (by omega) (by have := hb9.size; omega)
          have HRz := Lib.hid t1
          rw [← RM.out] at t2
          have hcv := own_str t2 (by unfold imgB; simp)
          have TE := Lib.hid (HB1.trans ((V8.out.trans ((VStep.of hb9 h8).trans t3)).below.mono (Nat.le_of_lt hz)))
          clear t1 t2 t3 K8 O8 V8 ho9 hb9 x0 x1 x2 x3 x4
          go_wp2_with (at_builtin; refine wpList_app rfl _ _ _ _ rfl rfl rfl rfl HRz.out ?_)
          go_ret
          exact ⟨rfl, TE.out⟩
end Go.Proofs.Ytbhhcjnjddcocaa
