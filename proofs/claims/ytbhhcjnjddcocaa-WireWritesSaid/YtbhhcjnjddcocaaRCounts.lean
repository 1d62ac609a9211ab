/- The reference's CountsOf. Conditions: the image is read below the heap's size; its sizes are bounded. -/
import Derived.Test.YtbhhcjnjddcocaaShapeA
namespace Go.Proofs.Ytbhhcjnjddcocaa
open Go.RowKit Sl

/-- After the first loop has come to k. -/
def told1 (m : Img) (k j : Nat) : Int := if 1 ≤ j ∧ j < k then (toldAll (rootsOf m) j : Int) else 0
/-- In the second loop, at page k, ahead of table i. -/
def told2 (m : Img) (k i j : Nat) : Int :=
  if j = 0 then 0 else if j < k then (countAt m.slots (rootsOf m) j : Int) else if j = k then (toldAll (rootsOf m) k + sumTo m.slots (rootsOf m) k i : Nat) else (toldAll (rootsOf m) j : Int)
theorem told1_step (m : Img) (k : Nat) (hk : 1 ≤ k) (j : Nat) : (if j = k then ((toldAll (rootsOf m) k : Nat) : Int) else told1 m k j) = told1 m (k + 1) j := by
  unfold told1
  by_cases h : j = k
  · subst h; rw [if_pos rfl, if_pos (by omega)]
  · rw [if_neg h]
    by_cases h2 : 1 ≤ j ∧ j < k
    · rw [if_pos h2, if_pos (by omega)]
    · rw [if_neg h2, if_neg (by omega)]
theorem told1_zero (m : Img) (j : Nat) : told1 m 1 j = 0 := by unfold told1; rw [if_neg (by omega)]
theorem told12 (m : Img) (n j : Nat) (hj : j < n) : told1 m n j = told2 m 1 1 j := by
  unfold told1 told2
  by_cases h0 : j = 0
  · rw [if_neg (by omega), if_pos h0]
  · rw [if_pos (by omega), if_neg h0, if_neg (by omega)]
    by_cases h1 : j = 1
    · subst h1; rw [if_pos rfl, sumTo_one]; rfl
    · rw [if_neg h1]
theorem told2_step (m : Img) (k i : Nat) (hk : 1 ≤ k) (hi : 1 ≤ i) (j : Nat) : (if j = k then ((toldAll (rootsOf m) k + sumTo m.slots (rootsOf m) k i + toldBy m.slots (rootsOf m) k i : Nat) : Int) else told2 m k i j) = told2 m k (i + 1) j := by
  unfold told2
  by_cases h : j = k
  · subst h; rw [if_pos rfl, if_neg (by omega), if_neg (by omega), if_pos rfl, sumTo_succ _ _ _ _ hi]; congr 1; omega
  · rw [if_neg h]
    by_cases h0 : j = 0
    · rw [if_pos h0, if_pos h0]
    · rw [if_neg h0, if_neg h0, if_neg h, if_neg h]
theorem told2_next (m : Img) (k : Nat) (hk : 1 ≤ k) (h1 : kindN m.slots k = 1) (j : Nat) : told2 m k m.slots.length j = told2 m (k + 1) 1 j := by
  unfold told2
  by_cases h0 : j = 0
  · rw [if_pos h0, if_pos h0]
  · rw [if_neg h0, if_neg h0]
    by_cases h : j < k
    · rw [if_pos h, if_pos (by omega)]
    · rw [if_neg h]
      by_cases h2 : j = k
      · subst h2; rw [if_pos rfl, if_pos (by omega), countAt_page hk h1]
      · rw [if_neg h2, if_neg (by omega)]
        by_cases h3 : j = k + 1
        · subst h3; rw [if_pos rfl, sumTo_one]; rfl
        · rw [if_neg h3]
theorem told2_skip (m : Img) (k : Nat) (hk : 1 ≤ k) (h1 : kindN m.slots k ≠ 1) (j : Nat) : told2 m k 1 j = told2 m (k + 1) 1 j := by
  unfold told2
  by_cases h0 : j = 0
  · rw [if_pos h0, if_pos h0]
  · rw [if_neg h0, if_neg h0]
    by_cases h : j < k
    · rw [if_pos h, if_pos (by omega)]
    · rw [if_neg h]
      by_cases h2 : j = k
      · subst h2; rw [if_pos rfl, if_pos (by omega), countAt_other hk h1, sumTo_one]; rfl
      · rw [if_neg h2, if_neg (by omega)]
        by_cases h3 : j = k + 1
        · subst h3; rw [if_pos rfl, sumTo_one]; rfl
        · rw [if_neg h3]
theorem told2_end (m : Img) (n j : Nat) (hj : j < n) : told2 m n 1 j = (countAt m.slots (rootsOf m) j : Int) := by
  unfold told2
  by_cases h0 : j = 0
  · rw [if_pos h0, h0]; rfl
  · rw [if_neg h0, if_pos hj]
theorem told2_at (m : Img) (k i : Nat) (hk : 1 ≤ k) : told2 m k i k = ((toldAll (rootsOf m) k + sumTo m.slots (rootsOf m) k i : Nat) : Int) := by
  unfold told2; rw [if_neg (by omega), if_neg (by omega), if_pos rfl]
theorem told2_tab (m : Img) (k i j : Nat) (hj : 1 ≤ j) (h1 : kindN m.slots k = 1) (h2 : kindN m.slots j = 2) : told2 m k i j = (toldAll (rootsOf m) j : Int) := by
  have hne : j ≠ k := by rintro rfl; omega
  unfold told2; rw [if_neg (by omega)]
  by_cases h : j < k
  · rw [if_pos h, countAt_other hj (by omega)]
  · rw [if_neg h, if_neg hne]
theorem told2_same (m : Img) (k i : Nat) (hi : 1 ≤ i) (h : toldBy m.slots (rootsOf m) k i = 0) (j : Nat) : told2 m k i j = told2 m k (i + 1) j := by
  unfold told2; rw [sumTo_succ _ _ _ _ hi, h, Nat.add_zero]
theorem toldBy_yes {l : List Slot} {ls : List (List Int)} {n k : Nat} {s : Slot} (hs : l[k]? = some s) (h2 : s.kind = 2) (h : 0 < toldAll ls k) : toldBy l ls n k = told s.table n := by
  unfold toldBy; rw [kindN_at hs, tableN_at hs, if_pos ⟨h2, h⟩]
theorem toldBy_no {l : List Slot} {ls : List (List Int)} {n k : Nat} (h : ¬ (kindN l k = 2 ∧ 0 < toldAll ls k)) : toldBy l ls n k = 0 := by unfold toldBy; rw [if_neg h]

set_option maxRecDepth 100000 in
set_option maxHeartbeats 4000000 in
theorem rcounts_any (v : IV) (m : Img) (w : World) (h : ImgR w w.heap.size v m) (hc : CBd m) :
    Calls Try.prog 16 #[.agg #[.int .i64 m.guest, .slice v.rA v.rn v.rc, .slice v.sA v.sn v.sc, .slice v.fA v.fn v.fc, .slice v.pA v.pn v.pc]] w (OwnRes w.heap.size 3 1 m.slots.length (ints (countsOf m)) w) := by
  obtain ⟨rA, rn, rc, sA, sn, sc, fA, fn, fc, pA, pn, pc⟩ := v
  have hsl : m.slots.length = sn := h.slen
  have hpl : m.snaps.length = pn := h.plen
  have hrl : m.root.length = rn := h.rlen
  have hsn1 : 1 ≤ sn := by rw [← hsl]; exact hc.one
  have hsn : sn ≤ 40 := by rw [← hsl]; exact hc.slots
  have hpn : pn ≤ 4 := by rw [← hpl]; exact hc.snaps
  have hrn : rn ≤ 4 := by rw [← hrl]; exact hc.root
  dsimp only
  have hmk := make_ints sn (by omega)
  have HX0 := Box.new w m.guest ⟨rA, rn, rc, sA, sn, sc, fA, fn, fc, pA, pn, pc⟩ 26
  obtain ⟨w0, hw0⟩ : ∃ w0, w.alloc (.cells #[.int .i64 m.guest, .slice rA rn rc, .slice sA sn sc, .slice fA fn fc, .slice pA pn pc] 26) = w0 := ⟨_, rfl⟩
  have hz0 : w0.heap.size = w.heap.size + 1 := by rw [← hw0]; simp
  obtain ⟨wb, hwb⟩ : ∃ wb, w0.alloc (.cells (ints (List.replicate sn 0)).toArray 3) = wb := ⟨_, rfl⟩
  have HB0 : Below w.heap.size w w0 := by rw [← hw0]; exact below1 _ _
  have hb01 : Below w0.heap.size w0 wb := by rw [← hwb]; exact below1 _ _
  have HXb : Box wb w.heap.size m.guest ⟨rA, rn, rc, sA, sn, sc, fA, fn, fc, pA, pn, pc⟩ := by
    rw [← hw0] at hb01; exact HX0.keep hb01 (by simp)
  have HRb : RowB wb (w.heap.size + 1) (row sn (told1 m 1)) := by
    rw [row_congr (g := fun _ => 0) (fun j _ => told1_zero m j), row_zero, ← hwb, ← hz0]; exact RowB.new w0 _
  have HBb := Lib.hid (HB0.trans (hb01.mono (by omega)))
  have HW0 := Lib.hid hw0
  have HWB := Lib.hid hwb
  have HZ0 := Lib.hid hz0
  have HI := Lib.hid h
  have HSL := Lib.hid hsl
  have HPL := Lib.hid hpl
  have hmk0 := hmk w0
  rw [hwb] at hmk0
  have HMK := Lib.hid hmk0
  have HC := Lib.hid hc
  clear hmk0 hmk hwb hw0 hz0 HX0 hb01 HB0 h hsl hpl hrl hc
  have hmk : ∀ W, W = w0 → (Instr.makeSlice 22 (.int .i64 (sn : Nat)) (.int .i64 (sn : Nat))).run Try.prog W = .ok (.slice (some ⟨w.heap.size + 1, 0, none⟩) sn sn) wb := by
    rintro W rfl; rw [← HZ0.out]; exact HMK.out
  have hmk' := hmk _ HW0.out
  clear hmk
  go_enter Try.func16, Try.ntmps16
  go_wp2_with fail
  clear hmk'
  go_loopw [4, 5, 6] (fun i _ _ wr => ∃ k : Nat, 1 ≤ k ∧ k ≤ sn ∧ i = .int .i64 k ∧ RowB wr (w.heap.size + 1) (row sn (told1 m k)) ∧ Box wr w.heap.size m.guest ⟨rA, rn, rc, sA, sn, sc, fA, fn, fc, pA, pn, pc⟩ ∧ Below w.heap.size w wr) (fun i _ _ _ => sn - (intOf i).toNat)
  case atStart => exact ⟨1, Nat.le_refl _, hsn1, rfl, HRb, HXb, HBb.out⟩
  case round =>
    clear HRb HXb
    obtain ⟨k, hk1, hk, rfl, hR, hX, hB⟩ := hrel
    have HR := Lib.hid hR
    have HX := Lib.hid hX
    have HB := Lib.hid hB
    obtain ⟨b0, b1, b2, b3, b4⟩ := hX
    dsimp only at b0 b1 b2 b3 b4
    clear hR hB
    by_cases hlt : k < sn
    · have KT := told_any rA rn rc w.heap.size m.root (k : Nat) wr (HI.out.root.below HB.out (Nat.le_refl _)) (by omega)
      have hb1 := told_len m.root (k : Nat)
      have hb2 := HC.out.root
      have hb3 : told m.root (k : Nat) ≤ 4 := by omega
      have KTT := Lib.hid KT
      clear KT hb1 hb2
      go_wp2_with fail
      refine KTT.out.mono ?_
      rintro e w' ⟨rfl, rfl⟩
      go_wp2_with fail
      go_loop [5, 6] (fun t i => ∃ q : Nat, q ≤ pn ∧ i = .int .i64 q ∧ t = .int .i64 (toldAll (m.root :: (m.snaps.take q).map (·.root)) (k : Nat) : Nat)) (fun _ i => pn - (intOf i).toNat)
      case atStart => exact ⟨0, Nat.zero_le _, rfl, by rw [List.take_zero, List.map_nil, toldAll_one]⟩
      case round =>
        obtain ⟨q, hq, rfl, rfl⟩ := hrel
        have hbq := HC.out.toldAll_le q (k : Nat)
        by_cases hltq : q < pn
        · obtain ⟨b, o, s, tA, tn, tc, rfl, hb, hx, c0, c1, c2, hsv⟩ := HI.out.snaps.at_ (k := q) hltq
          have c2' := (HB.out.cell (p := ⟨b, o + q * 3 + 2, none⟩) hb).trans c2
          have KT := told_any tA tn tc w.heap.size s.root (k : Nat) wr (hsv.root.below HB.out (Nat.le_refl _)) (hsv.cap.1)
          have hts := told_len s.root (k : Nat)
          have hts2 := HC.out.roots s (List.mem_of_getElem? hx)
          have hts3 : told s.root (k : Nat) ≤ 4 := by omega
          have hst : m.snaps.take (q + 1) = m.snaps.take q ++ [s] := by rw [List.take_add_one, hx]; rfl
          have HST := Lib.hid (show toldAll (m.root :: (m.snaps.take (q + 1)).map (·.root)) (k : Nat) = toldAll (m.root :: (m.snaps.take q).map (·.root)) (k : Nat) + told s.root (k : Nat) from by
            rw [hst, List.map_append, ← List.cons_append]; exact toldAll_snoc _ _ _)
          have KTT := Lib.hid KT
          clear KT hts hts2 hst hx c0 c1 c2 hsv
          generalize toldAll (m.root :: (m.snaps.take q).map (·.root)) (k : Nat) = ta at *
          generalize told s.root (k : Nat) = tb at *
          go_wp2_with fail
          refine KTT.out.mono ?_
          rintro e w' ⟨rfl, rfl⟩
          go_wp2_with fail
          go_round
          case rel => exact ⟨q + 1, by omega, by go_num, by rw [HST.out]; go_num⟩
          case measure => simp [intOf]; omega
        · have hall := rootsOf_all m (q := q) (by rw [HPL.out]; omega)
          rw [hall] at hbq ⊢
          have hcell := HR.out.cell (k := k) (row_at _ hlt)
          have hfz := HR.out.frozen k
          have HS := Lib.hid ((HR.out.set k (toldAll (rootsOf m) (k : Nat) : Nat)))
          have HXS := Lib.hid (fun v => show Box (wr.setCell ⟨w.heap.size + 1, k, none⟩ v) w.heap.size m.guest ⟨rA, rn, rc, sA, sn, sc, fA, fn, fc, pA, pn, pc⟩ from HX.out.keep ((Below.refl (w.heap.size + 1) wr).setCell (p := ⟨w.heap.size + 1, k, none⟩) (Nat.le_refl _) v) (by omega))
          have HBS := Lib.hid (fun v => HB.out.setCell (p := ⟨w.heap.size + 1, k, none⟩) (Nat.le_succ _) v)
          clear hall
          generalize hta : toldAll (rootsOf m) (k : Nat) = ta at *
          have HTA := Lib.hid hta
          clear hta
          go_wp2_with fail
          go_roundw
          case rel => exact ⟨k + 1, by omega, by omega, by go_num, by
            have := HS.out
            rw [row_set] at this
            rw [← HTA.out] at this ⊢
            rwa [row_congr (fun j _ => told1_step m k hk1 j)] at this, HXS.out _, HBS.out _⟩
          case measure => simp [intOf]; omega
    · obtain rfl : k = sn := by omega
      have HR1 := Lib.hid (show RowB wr (w.heap.size + 1) (row k (told2 m 1 1)) from by have := HR.out; rwa [row_congr (fun j hj => told12 m k j hj)] at this)
      clear HR hlt hk1 hk
      go_wp2_with fail
      clear b0 b1 b2 b3 b4
      go_loopw [7, 8] (fun i _ wq => ∃ p : Nat, 1 ≤ p ∧ p ≤ k ∧ i = .int .i64 p ∧ RowB wq (w.heap.size + 1) (row k (told2 m p 1)) ∧ Box wq w.heap.size m.guest ⟨rA, rn, rc, sA, k, sc, fA, fn, fc, pA, pn, pc⟩ ∧ Below w.heap.size w wq) (fun i _ _ => k - (intOf i).toNat)
      case atStart => exact ⟨1, Nat.le_refl _, hsn1, rfl, HR1.out, HX.out, HB.out⟩
      case round =>
        clear HR1 HX HB
        obtain ⟨p, hp1, hp, rfl, hR, hX, hB⟩ := hrel
        have HR := Lib.hid hR
        have HX := Lib.hid hX
        have HB := Lib.hid hB
        obtain ⟨b0, b1, b2, b3, b4⟩ := hX
        dsimp only at b0 b1 b2 b3 b4
        clear hR hB
        by_cases hlt : p < k
        · obtain ⟨b, o, s, tA, tn, tc, rfl, hb, hx, c0, c1, c2, hsv⟩ := HI.out.slots.at_ (k := p) hlt
          have c0' := (HB.out.cell (p := ⟨b, o + p * 3, none⟩) hb).trans c0
          have hkn := kindN_at hx
          clear hx c0 c1 c2 hsv
          cases hk1 : (s.kind != 1)
          · have hkd : kindN m.slots p = 1 := by rw [hkn]; simpa using hk1
            have HKD := Lib.hid hkd
            clear hkd hkn
            go_wp2_with fail
            clear b0 b1 b2 b3 b4 c0'
            obtain ⟨W1, hW1⟩ : ∃ W1 : World, W1 = wr := ⟨_, rfl⟩
            rw [← hW1] at HR HX HB ⊢
            clear hW1
            go_loopw [8] (fun i wq => ∃ q : Nat, 1 ≤ q ∧ q ≤ k ∧ i = .int .i64 q ∧ RowB wq (w.heap.size + 1) (row k (told2 m p q)) ∧ Box wq w.heap.size m.guest ⟨rA, rn, rc, some ⟨b, o, none⟩, k, sc, fA, fn, fc, pA, pn, pc⟩ ∧ Below w.heap.size w wq) (fun i _ => k - (intOf i).toNat)
            case atStart => exact ⟨1, Nat.le_refl _, hsn1, rfl, HR.out, HX.out, HB.out⟩
            case round =>
              clear HR HX HB
              obtain ⟨q, hq1, hq, rfl, hR, hX, hB⟩ := hrel
              have HR := Lib.hid hR
              have HX := Lib.hid hX
              have HB := Lib.hid hB
              obtain ⟨b0, b1, b2, b3, b4⟩ := hX
              dsimp only at b0 b1 b2 b3 b4
              clear hR hB
              by_cases hltq : q < k
              · obtain ⟨b', o', s2, tA2, tn2, tc2, he', hb2, hx2, d0, d1, d2, hsv2⟩ := HI.out.slots.at_ (k := q) hltq
                simp only [Option.some.injEq, Addr.mk.injEq, and_true] at he'
                obtain ⟨rfl, rfl⟩ := he'
                have d0' := (HB.out.cell (p := ⟨b, o + q * 3, none⟩) hb).trans d0
                have d2' := (HB.out.cell (p := ⟨b, o + q * 3 + 2, none⟩) hb).trans d2
                have hkq := kindN_at hx2
                cases hk2 : (s2.kind == 2)
                · have HNO := Lib.hid (toldBy_no (l := m.slots) (ls := rootsOf m) (n := p) (k := q) (by rw [hkq]; simp at hk2; omega))
                  clear hkq hx2 d0 d1 d2 hsv2
                  go_wp2_with fail
                  go_roundw
                  case rel => exact ⟨q + 1, by omega, by omega, by go_num, by have := HR.out; rwa [row_congr (fun j _ => told2_same m p q hq1 HNO.out j)] at this, HX.out, HB.out⟩
                  case measure => simp [intOf]; omega
                · have hk2' : s2.kind = 2 := by simpa using hk2
                  have hval := told2_tab m p q q hq1 HKD.out (hkq.trans hk2')
                  have hcq := HR.out.cell (k := q) (row_at _ hltq)
                  rw [hval] at hcq
                  by_cases hpos : 0 < toldAll (rootsOf m) (q : Nat)
                  · have hTB := toldBy_yes (n := p) hx2 hk2' hpos
                    have hcp := HR.out.cell (k := p) (row_at _ hlt)
                    rw [told2_at m p q hp1] at hcp
                    have hfp := HR.out.frozen p
                    have KT := told_any tA2 tn2 tc2 w.heap.size s2.table (p : Nat) wr.drew (hsv2.table.below (below_drewN HB.out 1) (Nat.le_refl _)) (hsv2.cap.1)
                    have hb1 := HC.out.all_le (p : Nat)
                    have hb2 := HC.out.sumTo_le p q (by omega)
                    have hb3 := told_len s2.table (p : Nat)
                    have hb4 := HC.out.tables s2 (List.mem_of_getElem? hx2)
                    have hstep := fun j => told2_step m p q hp1 hq1 j
                    rw [hTB] at hstep
                    obtain ⟨V, hV⟩ : ∃ V, toldAll (rootsOf m) (p : Nat) + sumTo m.slots (rootsOf m) p q = V := ⟨_, rfl⟩
                    have hV180 : V ≤ 180 := by omega
                    rw [hV] at hcp hstep
                    generalize told s2.table (p : Nat) = T at KT hb3 hstep
                    have hT4 : T ≤ 4 := by omega
                    generalize toldAll (rootsOf m) (q : Nat) = U at hcq hpos
                    have hposI : ((0 : Int) < ((U : Nat) : Int)) := by omega
                    have hposB : decide ((0 : Int) < ((U : Nat) : Int)) = true := by simp [hpos]
                    have p0 : (0 : Int) ≤ (p : Int) := by omega
                    have p1 : (p : Int) < (k : Int) := by omega
                    have q0 : (0 : Int) ≤ (q : Int) := by omega
                    have q1 : (q : Int) < (k : Int) := by omega
                    have HS := Lib.hid (show RowB (wr.drew.setCell ⟨w.heap.size + 1, p, none⟩ (.int .i64 ((V + T : Nat) : Int))) (w.heap.size + 1) (row k (told2 m p (q + 1))) from by
                      have := (show RowB wr.drew (w.heap.size + 1) _ from HR.out).set p ((V + T : Nat) : Int)
                      rwa [row_set, row_congr (fun j _ => hstep j)] at this)
                    have HXS := Lib.hid (fun v => show Box (wr.drew.setCell ⟨w.heap.size + 1, p, none⟩ v) w.heap.size m.guest ⟨rA, rn, rc, some ⟨b, o, none⟩, k, sc, fA, fn, fc, pA, pn, pc⟩ from HX.out.keep ((below_drewN (Below.refl (w.heap.size + 1) wr) 1).setCell (p := ⟨w.heap.size + 1, p, none⟩) (Nat.le_refl _) v) (by omega))
                    have HBS := Lib.hid (fun v => (show Below w.heap.size w wr.drew from below_drewN HB.out 1).setCell (p := ⟨w.heap.size + 1, p, none⟩) (Nat.le_succ _) v)
                    have KTT := Lib.hid KT
                    clear KT hb1 hb2 hb3 hb4 hx2 d0 d1 d2 hsv2 hkq hval hTB hstep hV
                    go_wp2_with fail
                    refine wp_region_still_tail 16 (by kernel_rfl) (by kernel_rfl) ?_
                    simp only [List.take_succ_cons, List.take_zero, List.drop_succ_cons, List.drop_zero]
                    repeat still_step
                    refine wpStill_step (fun K hK => ?_)
                    go_simp
                    refine ⟨_, KTT.out.mono (fun e w' h => ⟨h.1, h.2.symm⟩), hK _ ?_⟩
                    clear hK K
                    repeat still_step
                    refine wpStill_nil ?_
                    go_wp2_with fail
                    go_roundw
                    case rel => exact ⟨q + 1, by omega, by omega, by go_num, HS.out, HXS.out _, HBS.out _⟩
                    case measure => simp [intOf]; omega
                  · have HNO := Lib.hid (toldBy_no (l := m.slots) (ls := rootsOf m) (n := p) (k := q) (by omega))
                    have hz : toldAll (rootsOf m) (q : Nat) = 0 := by omega
                    rw [hz] at hcq
                    clear hkq hx2 d0 d1 d2 hsv2 hval hz hpos
                    go_wp2_with fail
                    go_roundw
                    case rel => exact ⟨q + 1, by omega, by omega, by go_num, by have := HR.out; rwa [row_congr (fun j _ => told2_same m p q hq1 HNO.out j)] at this, HX.out, HB.out⟩
                    case measure => simp [intOf]; omega
              · obtain rfl : q = k := by omega
                have hnx : ∀ j, told2 m p q j = told2 m (p + 1) 1 j := fun j => by have := told2_next m p hp1 HKD.out j; rwa [HSL.out] at this
                have HNX := Lib.hid (show RowB wr (w.heap.size + 1) (row q (told2 m (p + 1) 1)) from by have := HR.out; rwa [row_congr (fun j _ => hnx j)] at this)
                clear hnx
                go_wp2_with fail
                go_roundw
                case rel => exact ⟨p + 1, by omega, by omega, by go_num, HNX.out, HX.out, HB.out⟩
                case measure => simp [intOf]; omega
          · have HKD := Lib.hid (show kindN m.slots p ≠ 1 from by rw [hkn]; simpa using hk1)
            clear hkn
            go_wp2_with fail
            go_roundw
            case rel => exact ⟨p + 1, by omega, by omega, by go_num, by have := HR.out; rwa [row_congr (fun j _ => told2_skip m p hp1 HKD.out j)] at this, HX.out, HB.out⟩
            case measure => simp [intOf]; omega
        · obtain rfl : p = k := by omega
          have HEND := Lib.hid (show RowB wr (w.heap.size + 1) (countsOf m) from by
            have := HR.out
            rw [row_congr (fun j hj => told2_end m p j hj)] at this
            rw [countsOf_row, HSL.out]; exact this)
          have HLEN := Lib.hid (show (countsOf m).length = p from by rw [countsOf_row, row_len, HSL.out])
          go_wp2_with fail
          go_ret
          exact ⟨some ⟨w.heap.size + 1, 0, none⟩, p, by rw [HSL.out]; rfl, by rw [HSL.out]; exact HEND.out.own (Nat.le_succ _) HLEN.out (by unfold maxLen; omega), HB.out, by rw [HSL.out]; exact Nat.le_refl _, by unfold maxLen; omega⟩
end Go.Proofs.Ytbhhcjnjddcocaa
