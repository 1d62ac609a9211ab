/- The reference's LeaksOf and RepairOf. Conditions: the image is read below the heap's size, its shape is right. -/
import Derived.Test.YtnjjnioilbnnpaaOwnI
import Derived.Test.YtnjjnioilbnnpaaCounted
import Derived.Test.YtnjjnioilbnnpaaMend1
namespace Go.Proofs.Ytnjjnioilbnnpaa
open Go.RowKit Sl

set_option maxRecDepth 100000 in
set_option maxHeartbeats 1000000 in
theorem rleaks_any (v : IV) (m : Img) (w : World) (h : ImgR w w.heap.size v m) (hc : CBd m) :
    Calls Try.prog 25 #[imgV m v] w fun e w' => e = .returned (.int .i64 (leaksN m : Nat)) ∧ Below w.heap.size w w' := by
  have K1' := fun W (hb : Below w.heap.size w W) => rcounts_any v m W (h.next hb) hc
  have hcl := countsOf_len m
  have h40 := hc.slots
  have K1 := Lib.hid K1'
  have HI := Lib.hid h.slots
  have HSL := Lib.hid h.slen
  have hsl := h.slen
  have hsn : v.sn ≤ 40 := by omega
  have HL0 := Lib.hid (show leaksN m = leaksTo m m.slots.length from rfl)
  obtain ⟨rA, rn, rc, sA, sn, sc, fA, fn, fc, pA, pn, pc⟩ := v
  dsimp only [imgV] at *
  have HB1 := below1 w (.cells #[.int .i64 m.guest, .slice rA rn rc, .slice sA sn sc, .slice fA fn fc, .slice pA pn pc] 26)
  have HX := Lib.hid (Box.new w m.guest ⟨rA, rn, rc, sA, sn, sc, fA, fn, fc, pA, pn, pc⟩ 26)
  have hz : w.heap.size < (w.alloc (.cells #[.int .i64 m.guest, .slice rA rn rc, .slice sA sn sc, .slice fA fn fc, .slice pA pn pc] 26)).heap.size := by simp
  have HCL := Lib.hid hcl
  clear K1' h hsl hcl hc
  go_enter Try.func25, Try.ntmps25
  go_wp2_with fail
  refine (K1.out _ HB1).mono ?_
  rintro e w1 ⟨A1, c1, rfl, ho1, hb1, hc1, hm1⟩
  have HR := Lib.hid (show Rd w1 w1.heap.size 1 A1 sn (ints (countsOf m)) from by have := Rd.of_own ho1; rw [HSL.out] at this; exact this)
  have T1 := Lib.hid (below_next HB1 hb1)
  have X1 := Lib.hid (HX.out.keep hb1 hz)
  have hlen := HSL.out
  rw [hlen]
  clear ho1 hb1 HX hz HB1 hlen
  go_wp2_with fail
  go_loop [4, 5] (fun t i => ∃ k : Nat, k ≤ sn ∧ i = .int .i64 k ∧ t = .int .i64 (leaksTo m k : Nat)) (fun _ i => sn - (intOf i).toNat)
  case atStart => exact ⟨0, Nat.zero_le _, rfl, rfl⟩
  case round =>
    obtain ⟨k, hk, rfl, rfl⟩ := hrel
    have hle := leaksTo_le (m := m) k
    by_cases hlt : k < sn
    · obtain ⟨b5, o5, c, rfl, hb5, hx5, e5⟩ := HR.out.at1 hlt
      obtain ⟨b7, o7, s, tA, tn, tc, rfl, hb7, hx7, d0, d1, d2, hsv⟩ := HI.out.at_ (k := k) hlt
      have d0' := (T1.out.cell (p := ⟨b7, o7 + k * 3, none⟩) hb7).trans d0
      have HL := Lib.hid (leaksTo_at hx5 hx7)
      obtain ⟨b0, b1, b2, b3, b4⟩ := X1.out
      dsimp only at b0 b1 b2 b3 b4
      have k0 : (0 : Int) ≤ (k : Int) := by omega
      have k1 : (k : Int) < (sn : Int) := by omega
      clear hx5 hx7 d0 d1 d2 hsv
      generalize leaksTo m k = lk at *
      cases h1 : (c == 0)
      · go_wp2_with fail
        go_round
        case rel => exact ⟨k + 1, by omega, by go_num, by rw [HL.out, h1]; rfl⟩
        case measure => simp [intOf]; omega
      · cases h2 : (s.kind != 0)
        · go_wp2_with fail
          go_round
          case rel => exact ⟨k + 1, by omega, by go_num, by rw [HL.out, h1, h2]; rfl⟩
          case measure => simp [intOf]; omega
        · go_wp2_with fail
          go_round
          case rel => exact ⟨k + 1, by omega, by go_num, by rw [HL.out, h1, h2]; go_num⟩
          case measure => simp [intOf]; omega
    · have HD := Lib.hid (show m.slots.length = k from by have := HSL.out; omega)
      go_wp2_with fail
      go_ret
      exact ⟨ret_int (by rw [HL0.out, HD.out]), T1.out⟩

set_option maxRecDepth 100000 in
set_option maxHeartbeats 1000000 in
theorem rrepair_any (v : IV) (m : Img) (w : World) (h : ImgR w w.heap.size v m) (hc : CBd m) (hfl : m.refs.length ≤ 40) :
    Calls Try.prog 26 #[imgV m v] w (OwnOutB w.heap.size (settled m) w) := by
  have K1 := Lib.hid (fun W (hb : Below w.heap.size w W) => ownImg_any v m W (h.next hb) hc hfl)
  have K2 := Lib.hid (fun base tg v' q p W (ho : OwnI W base tg v' q p m) (hb : base ≤ W.heap.size) => counted_any base tg v' q p m W ho hb hc)
  obtain ⟨rA, rn, rc, sA, sn, sc, fA, fn, fc, pA, pn, pc⟩ := v
  dsimp only [imgV] at K1 ⊢
  have HB1 := below_next (below1 w (.cells #[.int .i64 m.guest, .slice rA rn rc, .slice sA sn sc, .slice fA fn fc, .slice pA pn pc] 26)) (below1 _ (.cells #[.int .i64 0, .slice none 0 0, .slice none 0 0, .slice none 0 0, .slice none 0 0] 26))
  have HZ' := ZB.new (w.alloc (.cells #[.int .i64 m.guest, .slice rA rn rc, .slice sA sn sc, .slice fA fn fc, .slice pA pn pc] 26))
  rw [World.size_alloc] at HZ'
  have HZ := Lib.hid HZ'
  have hz : w.heap.size + 1 < ((w.alloc (.cells #[.int .i64 m.guest, .slice rA rn rc, .slice sA sn sc, .slice fA fn fc, .slice pA pn pc] 26)).alloc (.cells #[.int .i64 0, .slice none 0 0, .slice none 0 0, .slice none 0 0, .slice none 0 0] 26)).heap.size := by simp
  clear h hc HZ'
  go_enter Try.func26, Try.ntmps26
  go_wp2_with fail
  refine (K1.out _ HB1).mono ?_
  rintro e w1 ⟨v1, tg, q, p, rfl, ho1, hb1⟩
  have T1 := below_next HB1 hb1
  have HO := Lib.hid (K2.out _ tg v1 q p w1 ho1 hb1.size)
  have hs1 := hb1.size
  obtain ⟨rA1, rn1, rc1, sA1, sn1, sc1, fA1, fn1, fc1, pA1, pn1, pc1⟩ := v1
  dsimp only [imgV] at HO ⊢
  have Z1 := HZ.out.next hb1
  generalize hws : ((w.alloc (.cells #[.int .i64 m.guest, .slice rA rn rc, .slice sA sn sc, .slice fA fn fc, .slice pA pn pc] 26)).alloc (.cells #[.int .i64 0, .slice none 0 0, .slice none 0 0, .slice none 0 0, .slice none 0 0] 26)) = wz at *
  have hbz := HB1.size
  clear ho1 hb1 K1 K2 hws
  go_wp2_with fail
  refine HO.out.mono ?_
  rintro e w2 ⟨v2, tg2, q2, p2, rfl, I2, hb2⟩
  have Z2 : ZB w2 (w.heap.size + 1) := ⟨(hb2.block _ hz).trans Z1.heap⟩
  have T2 := T1.trans (hb2.mono hbz)
  have h5 := five Z2.box.1 Z2.box.2 m.guest v2
  have hfin := Lib.hid ((I2.kept h5.2.2 Z2.box.1.ty (by decide) (by decide) (by decide)).lower hbz)
  have hbf := Lib.hid (T2.grown h5.2.2 T2.size (fun j e => by injection e with e; omega))
  have HK := Lib.hid h5.1
  obtain ⟨y0, y1, y2, y3, y4⟩ := Z2.cells
  obtain ⟨x0, x1, x2, x3, x4⟩ := Z2.froz
  obtain ⟨rA2, rn2, rc2, sA2, sn2, sc2, fA2, fn2, fc2, pA2, pn2, pc2⟩ := v2
  dsimp only [imgV] at *
  have hsg : (settled m).guest = m.guest := rfl
  rw [hsg]
  clear h5 I2 hsg
  go_wp2_with fail
  obtain ⟨k0, k1, k2, k3, k4⟩ := HK.out
  refine bodyPost_ret (v := imgV (settled m) ⟨rA2, rn2, rc2, sA2, sn2, sc2, fA2, fn2, fc2, pA2, pn2, pc2⟩) ?_ rfl ⟨_, tg2, q2, p2, rfl, hfin.out, hbf.out⟩
  simp [results, Try.results26, go_sem, k0, k1, k2, k3, k4]
  rfl
end Go.Proofs.Ytnjjnioilbnnpaa
