/- move.Up, Down, and the reference's. Conditions: what is handed in is read below the heap's size. (Printed by gen_mova.py.) -/
import Derived.Test.YtmdjoafbckphfaaStkF
import Derived.Test.YtmdjoafbckphfaaPureU
import Derived.Test.YtmdjoafbckphfaaWApi
namespace Go.Proofs.Ytmdjoafbckphfaa
open Go.RowKit Sl
theorem Fresh.nextM {w w' : World} {B : Nat} {v : IV} {m : Img} (h : Fresh w B v m) (hb : Below w.heap.size w w') : Fresh w' B v m := h.imp id fun ⟨_, _, _, _, hB, ho⟩ => ⟨_, _, _, _, hB, ho.next hb⟩
theorem down_no {m : Img} (h : checkErr m ≠ 0) : downE m = checkErr m ∧ downV m = [] := by
  have e : downE m = checkErr m := by unfold downE; rw [if_neg h]
  exact ⟨e, by unfold downV; rw [if_neg (by rw [e]; exact h)]⟩
theorem down_busy {m : Img} (h : checkErr m = 0) (hs : m.snaps.length ≠ 0) : downE m = 8 ∧ downV m = [] := by
  have e : downE m = 8 := by unfold downE; rw [if_pos h, if_neg hs]
  exact ⟨e, by unfold downV; rw [if_neg (by rw [e]; decide)]⟩
theorem down_ok {m : Img} (h : checkErr m = 0) (hs : m.snaps.length = 0) : downE m = 0 ∧ downV m = allM m := by
  have e : downE m = 0 := by unfold downE; rw [if_pos h, if_pos hs]
  exact ⟨e, by unfold downV; rw [if_pos e]⟩
set_option maxRecDepth 100000 in
set_option maxHeartbeats 2000000 in
theorem down_any (v : IV) (m : Img) (w : World) (h : ImgR w w.heap.size v m) :
    Calls Try.prog 27 #[imgV m v] w (OwnPair w.heap.size 9 1 ((downV m).map Value.string) (downE m) w) := by
  have K1' := fun W (hb : Below w.heap.size w W) => tcheck_any v m W (h.next hb)
  have hpl := h.plen
  have hpc := h.pcap.1
  by_cases he : checkErr m = 0
  · rw [he] at K1'
    by_cases hs : m.snaps.length = 0
    · obtain ⟨e1, e2⟩ := down_ok he hs
      rw [e1, e2]
      have K2' := fun W (hb : Below w.heap.size w W) => tAll_any v m W (h.next hb)
      rw [he] at K2'
      generalize allM m = all at *
      obtain ⟨rA, rn, rc, sA, sn, sc, fA, fn, fc, pA, pn, pc⟩ := v
      dsimp only [imgV] at *
      have hpn : ¬ ((0 : Int) < (pn : Int)) := by omega
      have HB1 := below1 w (.cells #[.int .i64 m.guest, .slice rA rn rc, .slice sA sn sc, .slice fA fn fc, .slice pA pn pc] 27)
      have HX := Lib.hid (Box.new w m.guest ⟨rA, rn, rc, sA, sn, sc, fA, fn, fc, pA, pn, pc⟩ 27)
      have hz : w.heap.size < (w.alloc (.cells #[.int .i64 m.guest, .slice rA rn rc, .slice sA sn sc, .slice fA fn fc, .slice pA pn pc] 27)).heap.size := by simp
      have K1 := Lib.hid K1'
      have K2 := Lib.hid K2'
      clear K1' K2' h he hs hpl e1 e2
      go_enter Try.func27, Try.ntmps27
      go_wp2_with fail
      refine (K1.out _ HB1).mono ?_
      rintro e w1 ⟨rfl, hb1⟩
      have HB := below_next HB1 hb1
      obtain ⟨b0, b1, b2, b3, b4⟩ := HX.out.keep hb1 hz
      dsimp only at b0 b1 b2 b3 b4
      go_wp2_with fail
      refine (K2.out _ HB).mono ?_
      rintro e w2 ⟨A', n', c', rfl, ho, hb2, hc1, hc2⟩
      have HO := Lib.hid ho
      clear ho
      go_wp2_with fail
      go_ret2
      exact ⟨A', n', c', rfl, own_base HO.out HB.size, HB.trans (hb2.mono HB.size), hc1, hc2⟩
    · obtain ⟨e1, e2⟩ := down_busy he hs
      rw [e1, e2]
      obtain ⟨rA, rn, rc, sA, sn, sc, fA, fn, fc, pA, pn, pc⟩ := v
      dsimp only [imgV] at *
      have hpn : (0 : Int) < (pn : Int) := by omega
      have HB1 := below1 w (.cells #[.int .i64 m.guest, .slice rA rn rc, .slice sA sn sc, .slice fA fn fc, .slice pA pn pc] 27)
      have HX := Lib.hid (Box.new w m.guest ⟨rA, rn, rc, sA, sn, sc, fA, fn, fc, pA, pn, pc⟩ 27)
      have hz : w.heap.size < (w.alloc (.cells #[.int .i64 m.guest, .slice rA rn rc, .slice sA sn sc, .slice fA fn fc, .slice pA pn pc] 27)).heap.size := by simp
      have K1 := Lib.hid K1'
      clear K1' h he hs hpl e1 e2
      go_enter Try.func27, Try.ntmps27
      go_wp2_with fail
      refine (K1.out _ HB1).mono ?_
      rintro e w1 ⟨rfl, hb1⟩
      have HB := below_next HB1 hb1
      obtain ⟨b0, b1, b2, b3, b4⟩ := HX.out.keep hb1 hz
      dsimp only at b0 b1 b2 b3 b4
      go_wp2_with fail
      go_ret2
      exact OwnPair.mk_nil rfl rfl HB
  · obtain ⟨e1, e2⟩ := down_no he
    rw [e1, e2]
    have lz : (checkErr m != 0) = true := by simpa using he
    generalize checkErr m = er at *
    obtain ⟨rA, rn, rc, sA, sn, sc, fA, fn, fc, pA, pn, pc⟩ := v
    dsimp only [imgV] at *
    have HB1 := below1 w (.cells #[.int .i64 m.guest, .slice rA rn rc, .slice sA sn sc, .slice fA fn fc, .slice pA pn pc] 27)
    have K1 := Lib.hid K1'
    clear K1' h he hpl e1 e2
    go_enter Try.func27, Try.ntmps27
    go_wp2_with fail
    refine (K1.out _ HB1).mono ?_
    rintro e w1 ⟨rfl, hb1⟩
    go_wp2_with fail
    go_ret2
    exact OwnPair.mk_nil rfl rfl (below_next HB1 hb1)
set_option maxRecDepth 100000 in
set_option maxHeartbeats 2000000 in
theorem mup_no (A : Option Addr) (n c : Nat) (l : List ByteArray) (w : World) (h : StrsR w w.heap.size A n l) (hc : n ≤ 4611686018427387903) (he : pagesErr l ≠ 0) :
    Calls Try.prog 17 #[.slice A n c] w (ImgOwn w.heap.size noImg (pagesErr l) w) := by
  have K1' := fun W (hb : Below w.heap.size w W) => pcheck_any A n c l W (h.next hb) hc
  have lz : (pagesErr l != 0) = true := by simpa using he
  generalize pagesErr l = er at *
  have K1 := Lib.hid K1'
  have f1 := below1 w (.cells #[.int .i64 0, .slice none 0 0, .slice none 0 0, .slice none 0 0, .slice none 0 0] 27)
  have z1 := ZB.new w
  obtain ⟨y0, y1, y2, y3, y4⟩ := z1.cells
  obtain ⟨q0, q1, q2, q3, q4⟩ := z1.froz
  have O := outI z1 (X := noImg) (v := noV) (B := w.heap.size) (.inl ⟨rfl, rfl⟩) f1 (Nat.le_refl _) (Nat.le_refl _)
  dsimp only [noImg, noV] at O
  obtain ⟨⟨k0, k1, k2, k3, k4⟩, hF, hB⟩ := O
  have HK := Lib.hid (And.intro k0 (And.intro k1 (And.intro k2 (And.intro k3 (And.intro k4 (And.intro hF hB))))))
  clear K1' h he k0 k1 k2 k3 k4 hF hB
  go_enter Try.func17, Try.ntmps17
  go_wp2_with fail
  generalize w.alloc (.cells #[.int .i64 0, .slice none 0 0, .slice none 0 0, .slice none 0 0, .slice none 0 0] 27) = W1 at *
  refine (K1.out _ f1).mono ?_
  rintro e w3 ⟨rfl, rfl⟩
  go_wp2_with fail
  obtain ⟨k0, k1, k2, k3, k4, hF, hB⟩ := HK.out
  refine bodyPost_ret (v := .tuple #[imgV noImg noV, .int .i64 er]) ?_ rfl ⟨noV, rfl, hF, hB⟩
  simp [results, Try.results17, go_sem, imgV, noImg, noV, k0, k1, k2, k3, k4]
set_option maxRecDepth 100000 in
set_option maxHeartbeats 2000000 in
theorem mup_ok (A : Option Addr) (n c : Nat) (l : List ByteArray) (w : World) (h : StrsR w w.heap.size A n l) (hc : n ≤ 4611686018427387903) (he : pagesErr l = 0) :
    Calls Try.prog 17 #[.slice A n c] w (ImgOwn w.heap.size (upI l) 0 w) := by
  have K1' := fun W (hb : Below w.heap.size w W) => pcheck_any A n c l W (h.next hb) hc
  rw [he] at K1'
  have K1 := Lib.hid K1'
  have hln := h.len
  have l16 := (pagesErr_len he).1
  have KF := Lib.hid (fun W => fresh_any (n : Nat) W (by omega) (by omega))
  have KW := Lib.hid (fun (k : Nat) (hk : k < n) (pg : ByteArray) (hpg : l.getD k noP = pg) (hz : pg ≠ zeroP) (v : IV) (W : World) (hi : ImgR W W.heap.size v (upTo l k)) => (show Calls Try.prog 25 #[imgV (upTo l k) v, .int .i64 (k : Nat), .string pg] W (ImgOwn W.heap.size (upTo l (k + 1)) 0 W) from by
    have := write_any v (upTo l k) (k : Nat) pg W hi (fun x => write_hw x)
    have e1 : writeE (upTo l k) (k : Nat) pg = 0 := by rw [← hpg]; exact up_step he (by omega)
    have e2 : upTo l (k + 1) = writeI (upTo l k) (k : Nat) pg := by
      show upStep (upTo l k) k (l.getD k noP) = _
      unfold upStep; rw [hpg, if_neg hz]
    rw [e1, ← e2] at this
    exact this))
  have KZ := Lib.hid (fun (k : Nat) (hz : l.getD k noP = zeroP) => (show upTo l (k + 1) = upTo l k from by
    show upStep (upTo l k) k (l.getD k noP) = _
    unfold upStep; rw [if_pos hz]))
  have HG := Lib.hid (fun (k : Nat) (hk : k < n) => (up_at he k (by omega)).guest)
  have HG2 := Lib.hid (up_at he l.length (Nat.le_refl _)).guest
  rw [up_ok he]
  rw [hln] at HG2 HG
  have HU0 : upTo l 0 = freshI (n : Nat) := by rw [← hln]; rfl
  have HU := Lib.hid HU0
  rw [hln]
  have HR := Lib.hid h
  have f1 := below1 w (.cells #[.int .i64 0, .slice none 0 0, .slice none 0 0, .slice none 0 0, .slice none 0 0] 27)
  have z1 := ZB.new w
  have s1 : (w.alloc (.cells #[.int .i64 0, .slice none 0 0, .slice none 0 0, .slice none 0 0, .slice none 0 0] 27)).heap.size = w.heap.size + 1 := World.size_alloc _ _
  clear K1' h he HU0
  go_enter Try.func17, Try.ntmps17
  go_wp2_with fail
  generalize w.alloc (.cells #[.int .i64 0, .slice none 0 0, .slice none 0 0, .slice none 0 0, .slice none 0 0] 27) = W1 at *
  refine (K1.out _ f1).mono ?_
  rintro e w3 ⟨rfl, rfl⟩
  go_wp2_with fail
  refine (KF.out _).mono ?_
  rintro e w5 ⟨⟨frA, frn, frc, fsA, fsn, fsc, ffA, ffn, ffc, fpA, fpn, fpc⟩, rfl, hF, hb⟩
  have l5 := hb.size
  have zs := z1.nextB hb (by omega)
  have th := below_next f1 hb
  have b1 := below1 w5 (.cells #[.int .i64 (n : Nat), .slice frA frn frc, .slice fsA fsn fsc, .slice ffA ffn ffc, .slice fpA fpn fpc] 27)
  have xb := Box.new w5 (n : Nat) ⟨frA, frn, frc, fsA, fsn, fsc, ffA, ffn, ffc, fpA, fpn, fpc⟩ 27
  have gb : BoxB (w5.alloc (.cells #[.int .i64 (n : Nat), .slice frA frn frc, .slice fsA fsn fsc, .slice ffA ffn ffc, .slice fpA fpn fpc] 27)) w5.heap.size := BoxB.new w5 _
  have hF6 := Fresh.nextM (hF.mono (C := w.heap.size) (by omega)) b1
  have ZH := Lib.hid zs
  have TH := Lib.hid th
  dsimp only [imgV, freshI] at xb b1 hF6 ⊢
  clear zs th hb hF KF z1 f1
  have HF6 : Hid (Fresh (w5.alloc (.cells #[.int .i64 (n : Nat), .slice frA frn frc, .slice fsA fsn fsc, .slice ffA ffn ffc, .slice fpA fpn fpc] 27)) w.heap.size ⟨frA, frn, frc, fsA, fsn, fsc, ffA, ffn, ffc, fpA, fpn, fpc⟩ (upTo l 0)) := Lib.hid (by rw [HU.out]; exact hF6)
  have XH := Lib.hid xb
  obtain ⟨c0, c1, c2, c3, c4⟩ := xb
  dsimp only at c0 c1 c2 c3 c4
  clear hF6
  go_wp2_with fail
  generalize (w5.alloc (.cells #[.int .i64 (n : Nat), .slice frA frn frc, .slice fsA fsn fsc, .slice ffA ffn ffc, .slice fpA fpn fpc] 27)) = W6 at *
  clear c0 c1 c2 c3 c4
  go_loopw [20] (fun i wr => ∃ (k : Nat) (v : IV), k ≤ n ∧ i = .int .i64 k ∧ Box wr w5.heap.size (n : Nat) v ∧ BoxB wr w5.heap.size ∧ Fresh wr w.heap.size v (upTo l k) ∧ Below w5.heap.size w5 wr) (fun i _ => n - (intOf i).toNat)
  case atStart => exact ⟨0, _, Nat.zero_le _, rfl, XH.out, gb, HF6.out, b1⟩
  case round =>
    obtain ⟨k, ⟨mrA, mrn, mrc, msA, msn, msc, mfA, mfn, mfc, mpA, mpn, mpc⟩, hkn, rfl, hx, hB, hf, hbw⟩ := hrel
    have HFk := Lib.hid hf
    have HXk := Lib.hid hx
    have lr := hB.ty.lt
    clear hf
    obtain ⟨c0, c1, c2, c3, c4⟩ := hx
    dsimp only at c0 c1 c2 c3 c4
    by_cases hlt : k < n
    · have TR := below_next TH.out hbw
      obtain ⟨b, o, s, rfl, hbl, hls, hcs, hsz⟩ := ((HR.out.next TR)).at_ hlt
      have hget : l.getD k noP = s := by rw [List.getD_eq_getElem?_getD, hls]; rfl
      have HGE := Lib.hid hget
      have e0 : (0 : Int) ≤ (k : Int) := by omega
      have e1 : (k : Int) < (n : Int) := by omega
      clear hls hget
      cases hzb : (s.toList == zeroP.toList)
      rotate_left
      · have HZ := Lib.hid (KZ.out k (by rw [HGE.out]; exact toList_inj hzb))
        go_wp2_with fail
        refine (zero_any _).mono ?_
        rintro e w7 ⟨rfl, hb7⟩
        go_wp2_with fail
        go_roundw
        case rel => exact ⟨k + 1, ⟨mrA, mrn, mrc, msA, msn, msc, mfA, mfn, mfc, mpA, mpn, mpc⟩, by omega, by go_num, HXk.out.keep hb7 lr, hB.next hb7, by rw [HZ.out]; exact Fresh.nextM HFk.out hb7, below_next hbw hb7⟩
        case measure => simp [intOf]; omega
      · have hzz := toList_ne hzb
        go_wp2_with fail
        refine (zero_any _).mono ?_
        rintro e w7 ⟨rfl, hb7⟩
        have l7 := hb7.size
        have HX7 := Lib.hid (HXk.out.keep hb7 lr)
        have hi7 := HFk.out.imgR.next hb7
        have KK := KW.out k hlt s HGE.out hzz _ _ hi7
        dsimp only [imgV] at KK
        rw [HG.out k hlt] at KK
        have KH := Lib.hid KK
        clear KK hi7 c0 c1 c2 c3 c4
        obtain ⟨c0, c1, c2, c3, c4⟩ := HX7.out
        dsimp only at c0 c1 c2 c3 c4
        have hB7 := hB.next hb7
        have hW7 := below_next hbw hb7
        have fz0 := hB7.fz 0
        go_wp2_with fail
        refine KH.out.mono ?_
        rintro e w8 ⟨⟨nrA, nrn, nrc, nsA, nsn, nsc, nfA, nfn, nfc, npA, npn, npc⟩, rfl, hF8, hb8⟩
        have l8 := hb8.size
        have HX8 := HX7.out.keep hb8 hB7.ty.lt
        have hB8 := hB7.next hb8
        have h5 := five hB8 ⟨_, _, HX8⟩ (n : Nat) ⟨nrA, nrn, nrc, nsA, nsn, nsc, nfA, nfn, nfc, npA, npn, npc⟩
        have hF9 := (hF8.mono (C := w.heap.size) (by have := hW7.size; have := TH.out.size; omega)).kept h5.2.2 hB8.ty (by decide) (by decide) (by decide)
        have hW9 := (below_next hW7 hb8).grown h5.2.2 (by omega) (fun j e => by injection e with e; omega)
        dsimp only [imgV] at h5 hF9 hW9 ⊢
        have G := HG2.out
        clear c0 c1 c2 c3 c4
        obtain ⟨c0, c1, c2, c3, c4⟩ := HX8
        dsimp only at c0 c1 c2 c3 c4
        have g0 := hB8.fz 0
        have g1 := hB8.fz 1
        have g2 := hB8.fz 2
        have g3 := hB8.fz 3
        have g4 := hB8.fz 4
        have HH := Lib.hid (And.intro h5.1 (And.intro h5.2.1 (And.intro hF9 hW9)))
        clear h5 hF9 hW9 hF8 hb8 HX7 KH hB7 hW7 fz0
        have hgk : (upTo l (k + 1)).guest = (n : Nat) := by
          by_cases hl : k + 1 < n
          · exact HG.out _ hl
          · have : k + 1 = n := by omega
            rw [this]; exact G
        rw [hgk]
        go_wp2_with fail
        go_roundw
        case rel => exact ⟨k + 1, _, by omega, by go_num, HH.out.1, HH.out.2.1, HH.out.2.2.1, HH.out.2.2.2⟩
        case measure => simp [intOf]; omega
    · obtain rfl : k = n := by omega
      have zs := ZH.out.nextB hbw (by have := ZH.out.box.1.ty.lt; omega)
      have O := outI zs HFk.out (below_next TH.out hbw) (Nat.le_refl _) (Nat.le_refl _)
      rw [HG2.out] at O
      dsimp only at O
      obtain ⟨⟨k0, k1, k2, k3, k4⟩, hF, hB'⟩ := O
      obtain ⟨u0, u1, u2, u3, u4⟩ := zs.cells
      obtain ⟨q0, q1, q2, q3, q4⟩ := zs.froz
      have HK := Lib.hid (And.intro k0 (And.intro k1 (And.intro k2 (And.intro k3 (And.intro k4 (And.intro hF hB'))))))
      clear k0 k1 k2 k3 k4 hF hB' zs
      have G := HG2.out
      go_wp2_with fail
      obtain ⟨k0, k1, k2, k3, k4, hF, hB'⟩ := HK.out
      refine bodyPost_ret (v := .tuple #[imgV (upTo l k) ⟨mrA, mrn, mrc, msA, msn, msc, mfA, mfn, mfc, mpA, mpn, mpc⟩, .int .i64 0]) ?_ rfl ⟨_, rfl, hF, hB'⟩
      simp [results, Try.results17, go_sem, imgV, G, k0, k1, k2, k3, k4]
theorem mup_any (A : Option Addr) (n c : Nat) (l : List ByteArray) (w : World) (h : StrsR w w.heap.size A n l) (hc : n ≤ 4611686018427387903) :
    Calls Try.prog 17 #[.slice A n c] w (ImgOwn w.heap.size (upI l) (pagesErr l) w) := by
  by_cases he : pagesErr l = 0
  · rw [he]; exact mup_ok A n c l w h hc he
  · rw [up_no he]; exact mup_no A n c l w h hc he
end Go.Proofs.Ytmdjoafbckphfaa
