/- The reference's SameImages at two images that hold the same. Conditions: both are read below the heap's size. -/
import Derived.Test.YtbhhcjnjddcocaaOImg2
import Derived.Test.YtbhhcjnjddcocaaSame
namespace Go.Proofs.Ytbhhcjnjddcocaa
open Go.RowKit Sl

set_option maxRecDepth 100000 in
set_option maxHeartbeats 4000000 in
theorem sameImg_any (v v2 : IV) (m : Img) (w : World) (h : ImgR w w.heap.size v m) (h2 : ImgR w w.heap.size v2 m) :
    Calls Try.prog 10 #[imgV m v, imgV m v2] w fun e w' => e = .returned (.bool true) ∧ Below w.heap.size w w' := by
  have KR' := fun W (hb : Below w.heap.size w W) => sameInts_any v.rA v2.rA v.rn v2.rn v.rc v2.rc m.root m.root W (h.next hb).root (h2.next hb).root h.rcap.1 h2.rcap.1
  have KF' := fun W (hb : Below w.heap.size w W) => sameInts_any v.fA v2.fA v.fn v2.fn v.fc v2.fc m.refs m.refs W (h.next hb).refs (h2.next hb).refs h.fcap.1 h2.fcap.1
  simp only [decide_true] at KR' KF'
  have KR := Lib.hid KR'
  have KF := Lib.hid KF'
  have HI := Lib.hid h
  have HI2 := Lib.hid h2
  have e1 : v2.rn = v.rn := by rw [← h.rlen, ← h2.rlen]
  have e2 : v2.sn = v.sn := by rw [← h.slen, ← h2.slen]
  have e3 : v2.fn = v.fn := by rw [← h.flen, ← h2.flen]
  have e4 : v2.pn = v.pn := by rw [← h.plen, ← h2.plen]
  have hsn : v.sn ≤ 4611686018427387903 := h.scap.1
  have hpn : v.pn ≤ 4611686018427387903 := h.pcap.1
  obtain ⟨rA, rn, rc, sA, sn, sc, fA, fn, fc, pA, pn, pc⟩ := v
  obtain ⟨rA2, rn2, rc2, sA2, sn2, sc2, fA2, fn2, fc2, pA2, pn2, pc2⟩ := v2
  dsimp only [imgV] at *
  subst e1 e2 e3 e4
  clear KR' KF' h h2
  have HB1 := below_next (below1 w (.cells #[.int .i64 m.guest, .slice rA rn2 rc, .slice sA sn2 sc, .slice fA fn2 fc, .slice pA pn2 pc] 26)) (below1 _ (.cells #[.int .i64 m.guest, .slice rA2 rn2 rc2, .slice sA2 sn2 sc2, .slice fA2 fn2 fc2, .slice pA2 pn2 pc2] 26))
  have HX := Lib.hid ((Box.new w m.guest ⟨rA, rn2, rc, sA, sn2, sc, fA, fn2, fc, pA, pn2, pc⟩ 26).keep (below1 _ (.cells #[.int .i64 m.guest, .slice rA2 rn2 rc2, .slice sA2 sn2 sc2, .slice fA2 fn2 fc2, .slice pA2 pn2 pc2] 26)) (by simp))
  have HY' := Box.new (w.alloc (.cells #[.int .i64 m.guest, .slice rA rn2 rc, .slice sA sn2 sc, .slice fA fn2 fc, .slice pA pn2 pc] 26)) m.guest ⟨rA2, rn2, rc2, sA2, sn2, sc2, fA2, fn2, fc2, pA2, pn2, pc2⟩ 26
  rw [World.size_alloc] at HY'
  have HY := Lib.hid HY'
  have hz : w.heap.size + 2 ≤ ((w.alloc (.cells #[.int .i64 m.guest, .slice rA rn2 rc, .slice sA sn2 sc, .slice fA fn2 fc, .slice pA pn2 pc] 26)).alloc (.cells #[.int .i64 m.guest, .slice rA2 rn2 rc2, .slice sA2 sn2 sc2, .slice fA2 fn2 fc2, .slice pA2 pn2 pc2] 26)).heap.size := by simp
  clear HY'
  go_enter Try.func10, Try.ntmps10
  go_wp2_with fail
  refine (KR.out _ HB1).mono ?_
  rintro e w1 ⟨rfl, hb1⟩
  have T1 := below_next HB1 hb1
  have hz1 : w.heap.size + 2 ≤ w1.heap.size := by have := hb1.size; omega
  have X1 := HX.out.keep hb1 (by omega)
  have Y1 := HY.out.keep hb1 (by omega)
  obtain ⟨b0, b1, b2, b3, b4⟩ := X1
  obtain ⟨d0, d1, d2, d3, d4⟩ := Y1
  dsimp only at b0 b1 b2 b3 b4 d0 d1 d2 d3 d4
  have XX := Lib.hid (show Box w1 w.heap.size m.guest ⟨rA, rn2, rc, sA, sn2, sc, fA, fn2, fc, pA, pn2, pc⟩ from ⟨b0, b1, b2, b3, b4⟩)
  have YY := Lib.hid (show Box w1 (w.heap.size + 1) m.guest ⟨rA2, rn2, rc2, sA2, sn2, sc2, fA2, fn2, fc2, pA2, pn2, pc2⟩ from ⟨d0, d1, d2, d3, d4⟩)
  clear HX HY hz HB1
  go_wp2_with fail
  refine (KF.out _ T1).mono ?_
  rintro e w2 ⟨rfl, hb2⟩
  have T2 := below_next T1 hb2
  have hz2 : w.heap.size + 2 ≤ w2.heap.size := by have := hb2.size; omega
  have X2 := Lib.hid (XX.out.keep hb2 (by omega))
  have Y2 := Lib.hid (YY.out.keep hb2 (by omega))
  clear b0 b1 b2 b3 b4 d0 d1 d2 d3 d4 hb1 XX YY T1
  obtain ⟨b0, b1, b2, b3, b4⟩ := X2.out
  obtain ⟨d0, d1, d2, d3, d4⟩ := Y2.out
  dsimp only at b0 b1 b2 b3 b4 d0 d1 d2 d3 d4
  go_wp2_with fail
  clear b0 b1 b2 b3 b4 d0 d1 d2 d3 d4 hb2
  go_loopw [5] (fun i wr => ∃ k : Nat, k ≤ sn2 ∧ i = .int .i64 k ∧ Below w2.heap.size w2 wr) (fun i _ => sn2 - (intOf i).toNat)
  case atStart => exact ⟨0, Nat.zero_le _, rfl, Below.refl _ _⟩
  case round =>
    obtain ⟨k, hk, rfl, hbw⟩ := hrel
    have TR := below_next T2 hbw
    have hzr : w.heap.size + 2 ≤ wr.heap.size := by have := hbw.size; omega
    have XR := X2.out.keep hbw (by omega)
    have YR := Y2.out.keep hbw (by omega)
    by_cases hlt : k < sn2
    · obtain ⟨p1, o1, s, tA, tn, tc, rfl, hp1, hx1, a0, a1, a2, hs1⟩ := HI.out.slots.at_ (k := k) hlt
      obtain ⟨p2, o2, s2, uA, un, uc, rfl, hp2, hx2, c0, c1, c2, hs2⟩ := HI2.out.slots.at_ (k := k) hlt
      rw [hx1] at hx2
      injection hx2 with hx2
      subst hx2
      have KT' := fun W (hb : Below w.heap.size w W) => sameInts_any tA uA tn un tc uc s.table s.table W (Rd.next hs1.table hb) (Rd.next hs2.table hb) hs1.cap.1 hs2.cap.1
      simp only [decide_true] at KT'
      have KT := Lib.hid KT'
      have a0' := (TR.cell (p := ⟨p1, o1 + k * 3, none⟩) hp1).trans a0
      have a1' := (TR.cell (p := ⟨p1, o1 + k * 3 + 1, none⟩) hp1).trans a1
      have a2' := (TR.cell (p := ⟨p1, o1 + k * 3 + 2, none⟩) hp1).trans a2
      have c0' := (TR.cell (p := ⟨p2, o2 + k * 3, none⟩) hp2).trans c0
      have c1' := (TR.cell (p := ⟨p2, o2 + k * 3 + 1, none⟩) hp2).trans c1
      have c2' := (TR.cell (p := ⟨p2, o2 + k * 3 + 2, none⟩) hp2).trans c2
      obtain ⟨b0, b1, b2, b3, b4⟩ := XR
      obtain ⟨d0, d1, d2, d3, d4⟩ := YR
      dsimp only at b0 b1 b2 b3 b4 d0 d1 d2 d3 d4
      have l1 : w.heap.size < wr.heap.size := by omega
      have l2 : w.heap.size + 1 < wr.heap.size := by omega
      have l3 : p1 < wr.heap.size := by omega
      have l4 : p2 < wr.heap.size := by omega
      have g1 : (s.kind != s.kind) = false := by simp
      have g2 : (s.data.toList == s.data.toList) = true := by simp
      have e0 : (0 : Int) ≤ (k : Int) := by omega
      have e1 : (k : Int) < (sn2 : Int) := by omega
      have TD : Below w.heap.size w wr.drew := TR.drew
      clear hx1 KT' a0 a1 a2 c0 c1 c2 hs1 hs2
      go_wp2_with fail
      go_region_held3 (fun w' => w'.cell? ⟨w.heap.size, 2, none⟩ = some (.slice (some ⟨p1, o1, none⟩) sn2 sc) ∧ w'.cell? ⟨w.heap.size + 1, 2, none⟩ = some (.slice (some ⟨p2, o2, none⟩) sn2 sc2) ∧
          w'.cell? ⟨p1, o1 + k * 3, none⟩ = some (.int .i64 s.kind) ∧ w'.cell? ⟨p1, o1 + k * 3 + 1, none⟩ = some (.string s.data) ∧ w'.cell? ⟨p1, o1 + k * 3 + 2, none⟩ = some (.slice tA tn tc) ∧
          w'.cell? ⟨p2, o2 + k * 3, none⟩ = some (.int .i64 s.kind) ∧ w'.cell? ⟨p2, o2 + k * 3 + 1, none⟩ = some (.string s.data) ∧ w'.cell? ⟨p2, o2 + k * 3 + 2, none⟩ = some (.slice uA un uc))
        (first | (refine ⟨?_, ?_, ?_, ?_, ?_, ?_, ?_, ?_⟩ <;> assumption) | (refine ⟨(hb5.cell l1).trans b2, (hb5.cell l2).trans d2, (hb5.cell l3).trans a0', (hb5.cell l3).trans a1', (hb5.cell l3).trans a2', (hb5.cell l4).trans c0', (hb5.cell l4).trans c1', (hb5.cell l4).trans c2'⟩))
        ((go_at_call 25; refine (KT.out _ TD).mono ?_; rintro e w5 ⟨rfl, hb5⟩))
      have hb5' : Below w2.heap.size w2 w5 := hbw.trans (((Below.refl _ _).drew.trans hb5).mono hbw.size)
      clear b0 b1 b2 b3 b4 d0 d1 d2 d3 d4 a0' a1' a2' c0' c1' c2'
      go_wp2_with fail
      go_roundw
      case rel => exact ⟨k + 1, by omega, by go_num, hb5'⟩
      case measure => simp [intOf]; omega
    · obtain ⟨b0, b1, b2, b3, b4⟩ := XR
      dsimp only at b0 b1 b2 b3 b4
      go_wp2_with fail
      clear b0 b1 b2 b3 b4 YR
      go_loopw [6] (fun i wr => ∃ k : Nat, k ≤ pn2 ∧ i = .int .i64 k ∧ Below w2.heap.size w2 wr) (fun i _ => pn2 - (intOf i).toNat)
      case atStart => exact ⟨0, Nat.zero_le _, rfl, hbw⟩
      case round =>
        clear hbw TR hzr
        obtain ⟨k, hk, rfl, hbw⟩ := hrel
        have TR := below_next T2 hbw
        have hzr : w.heap.size + 2 ≤ wr.heap.size := by have := hbw.size; omega
        have XR := X2.out.keep hbw (by omega)
        have YR := Y2.out.keep hbw (by omega)
        by_cases hlt : k < pn2
        · obtain ⟨p1, o1, s, tA, tn, tc, rfl, hp1, hx1, a0, a1, a2, hs1⟩ := HI.out.snaps.at_ (k := k) hlt
          obtain ⟨p2, o2, s2, uA, un, uc, rfl, hp2, hx2, c0, c1, c2, hs2⟩ := HI2.out.snaps.at_ (k := k) hlt
          rw [hx1] at hx2
          injection hx2 with hx2
          subst hx2
          have KT' := fun W (hb : Below w.heap.size w W) => sameInts_any tA uA tn un tc uc s.root s.root W (Rd.next hs1.root hb) (Rd.next hs2.root hb) hs1.cap.1 hs2.cap.1
          simp only [decide_true] at KT'
          have KT := Lib.hid KT'
          have a0' := (TR.cell (p := ⟨p1, o1 + k * 3, none⟩) hp1).trans a0
          have a1' := (TR.cell (p := ⟨p1, o1 + k * 3 + 1, none⟩) hp1).trans a1
          have a2' := (TR.cell (p := ⟨p1, o1 + k * 3 + 2, none⟩) hp1).trans a2
          have c0' := (TR.cell (p := ⟨p2, o2 + k * 3, none⟩) hp2).trans c0
          have c1' := (TR.cell (p := ⟨p2, o2 + k * 3 + 1, none⟩) hp2).trans c1
          have c2' := (TR.cell (p := ⟨p2, o2 + k * 3 + 2, none⟩) hp2).trans c2
          obtain ⟨b0, b1, b2, b3, b4⟩ := XR
          obtain ⟨d0, d1, d2, d3, d4⟩ := YR
          dsimp only at b0 b1 b2 b3 b4 d0 d1 d2 d3 d4
          have l1 : w.heap.size < wr.heap.size := by omega
          have l2 : w.heap.size + 1 < wr.heap.size := by omega
          have l3 : p1 < wr.heap.size := by omega
          have l4 : p2 < wr.heap.size := by omega
          have g1 : (s.guest != s.guest) = false := by simp
          have g2 : (s.name.toList == s.name.toList) = true := by simp
          have e0 : (0 : Int) ≤ (k : Int) := by omega
          have e1 : (k : Int) < (pn2 : Int) := by omega
          have TD : Below w.heap.size w wr.drew := TR.drew
          clear hx1 KT' a0 a1 a2 c0 c1 c2 hs1 hs2
          go_wp2_with fail
          go_region_held3 (fun w' => w'.cell? ⟨w.heap.size, 4, none⟩ = some (.slice (some ⟨p1, o1, none⟩) pn2 pc) ∧ w'.cell? ⟨w.heap.size + 1, 4, none⟩ = some (.slice (some ⟨p2, o2, none⟩) pn2 pc2) ∧
              w'.cell? ⟨p1, o1 + k * 3, none⟩ = some (.string s.name) ∧ w'.cell? ⟨p1, o1 + k * 3 + 1, none⟩ = some (.int .i64 s.guest) ∧ w'.cell? ⟨p1, o1 + k * 3 + 2, none⟩ = some (.slice tA tn tc) ∧
              w'.cell? ⟨p2, o2 + k * 3, none⟩ = some (.string s.name) ∧ w'.cell? ⟨p2, o2 + k * 3 + 1, none⟩ = some (.int .i64 s.guest) ∧ w'.cell? ⟨p2, o2 + k * 3 + 2, none⟩ = some (.slice uA un uc))
            (first | (refine ⟨?_, ?_, ?_, ?_, ?_, ?_, ?_, ?_⟩ <;> assumption) | (refine ⟨(hb5.cell l1).trans b4, (hb5.cell l2).trans d4, (hb5.cell l3).trans a0', (hb5.cell l3).trans a1', (hb5.cell l3).trans a2', (hb5.cell l4).trans c0', (hb5.cell l4).trans c1', (hb5.cell l4).trans c2'⟩))
            ((go_at_call 25; refine (KT.out _ TD).mono ?_; rintro e w5 ⟨rfl, hb5⟩))
          have hb5' : Below w2.heap.size w2 w5 := hbw.trans (((Below.refl _ _).drew.trans hb5).mono hbw.size)
          clear b0 b1 b2 b3 b4 d0 d1 d2 d3 d4 a0' a1' a2' c0' c1' c2'
          go_wp2_with fail
          go_roundw
          case rel => exact ⟨k + 1, by omega, by go_num, hb5'⟩
          case measure => simp [intOf]; omega
        · obtain ⟨b0, b1, b2, b3, b4⟩ := XR
          dsimp only at b0 b1 b2 b3 b4
          go_wp2_with fail
          go_ret
          exact ⟨rfl, TR⟩
end Go.Proofs.Ytbhhcjnjddcocaa
