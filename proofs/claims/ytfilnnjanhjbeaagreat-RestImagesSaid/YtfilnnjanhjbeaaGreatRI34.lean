/- Texts of the proof of restImages_holds: SnApi. Conditions: as each text says. -/
import Derived.Test.YtfilnnjanhjbeaaGreatRI16
import Derived.Test.YtfilnnjanhjbeaaGreatRI21
import Derived.Test.YtfilnnjanhjbeaaGreatRI22
import Derived.Test.YtfilnnjanhjbeaaGreatRI33
namespace Go.Proofs.YtfilnnjanhjbeaaGreat
open Go.RowKit Sl
set_option maxRecDepth 100000 in
set_option maxHeartbeats 2000000 in
theorem ssettled_any (base : Nat) (tg : Nat → Nat) (v : IV) (q : List SV) (p : List PV) (m : Img) (w : World) (h : OwnI w base tg v q p m) (hb : base ≤ w.heap.size) (hc : CBd m) (hw : Wired m) :
    Calls Tryz.prog 34 #[imgV m v] w fun e w' => ∃ v' tg' q', e = .returned (.tuple #[imgV (settled m) v', .int .i64 0]) ∧ OwnI w' base tg' v' q' p (settled m) ∧ Below base w w' := by
  obtain ⟨f1, f2, f4, f5⟩ := boxes2 w m.guest v
  have E1 := BoxB.next (BoxB.new w #[.int .i64 m.guest, .slice v.rA v.rn v.rc, .slice v.sA v.sn v.sc, .slice v.fA v.fn v.fc, .slice v.pA v.pn v.pc]) (below1 _ (.cells #[.int .i64 0, .slice none 0 0, .slice none 0 0, .slice none 0 0, .slice none 0 0] 26))
  have K' := settleK_any w.heap.size base tg v q p m _ (h.next f1) f2 E1 hb hc hw
  obtain ⟨rA, rn, rc, sA, sn, sc, fA, fn, fc, pA, pn, pc⟩ := v
  dsimp only [imgV] at K' f1 f2 f4 f5 E1 ⊢
  have K := Lib.hid K'
  clear K' h E1
  obtain ⟨x0, x1, x2, x3, x4⟩ := f2
  dsimp only at x0 x1 x2 x3 x4
  go_enter Tryz.func34, Tryz.ntmps34
  go_wp2_with fail
  generalize (w.alloc (.cells #[.int .i64 m.guest, .slice rA rn rc, .slice sA sn sc, .slice fA fn fc, .slice pA pn pc] 26)).alloc (.cells #[.int .i64 0, .slice none 0 0, .slice none 0 0, .slice none 0 0, .slice none 0 0] 26) = W0 at *
  refine K.out.mono ?_
  rintro e W1 ⟨rfl, v4, tg4, q4, X4, I4, E4, hb4, hk4⟩
  have Z1 : ZB W1 (w.heap.size + 1) := ⟨(hk4 (w.heap.size + 1) (by omega) (by omega) ⟨_, _, f4.heap⟩).trans f4.heap⟩
  have h5 := five Z1.box.1 Z1.box.2 m.guest v4
  have HI5 := Lib.hid (I4.kept h5.2.2 Z1.box.1.ty (by decide) (by decide) (by decide))
  have HB5 := Lib.hid (((f1.mono hb).trans hb4).grown h5.2.2 (by have := f1.size; have := hb4.size; omega) (fun j e => by injection e with e; omega))
  have HK := Lib.hid h5.1
  obtain ⟨b0, b1, b2, b3, b4⟩ := X4
  obtain ⟨y0, y1, y2, y3, y4⟩ := Z1.cells
  obtain ⟨q0, q1, q2, q3, q4⟩ := Z1.froz
  clear h5 x0 x1 x2 x3 x4 f1 f4 hb4 hk4 I4 E4 K
  go_wp2_with fail
  obtain ⟨k0, k1, k2, k3, k4⟩ := HK.out
  refine bodyPost_ret (v := .tuple #[imgV (settled m) v4, .int .i64 0]) ?_ rfl ⟨v4, tg4, _, rfl, HI5.out, HB5.out⟩
  simp [results, Tryz.results34, go_sem, k0, k1, k2, k3, k4]
  rfl
set_option maxRecDepth 100000 in
set_option maxHeartbeats 2000000 in
theorem create_no (v : IV) (m : Img) (name : ByteArray) (w : World) (h : ImgR w w.heap.size v m) (he : checkErr m ≠ 0) :
    Calls Tryz.prog 8 #[imgV m v, .string name] w (ImgOwn w.heap.size noImg (checkErr m) w) := by
  have KC' := fun W (hb : Below w.heap.size w W) => tcheck_any v m W (h.next hb)
  obtain ⟨f1, f2, f4, f5⟩ := boxes2 w m.guest v
  have lz : (checkErr m != 0) = true := by simpa using he
  generalize checkErr m = er at *
  obtain ⟨rA, rn, rc, sA, sn, sc, fA, fn, fc, pA, pn, pc⟩ := v
  dsimp only [imgV] at KC' f1 f2 f4 f5 ⊢
  have KC := Lib.hid KC'
  clear KC'
  have HX := Lib.hid f2
  obtain ⟨x0, x1, x2, x3, x4⟩ := f2
  dsimp only at x0 x1 x2 x3 x4
  clear h he
  go_enter Tryz.func8, Tryz.ntmps8
  go_wp2_with fail
  generalize (w.alloc (.cells #[.int .i64 m.guest, .slice rA rn rc, .slice sA sn sc, .slice fA fn fc, .slice pA pn pc] 26)).alloc (.cells #[.int .i64 0, .slice none 0 0, .slice none 0 0, .slice none 0 0, .slice none 0 0] 26) = W0 at *
  have HL : Hid (w.heap.size < W0.heap.size) := Lib.hid (by omega)
  have HZ := Lib.hid f4
  have HB := Lib.hid f1
  have h2 : W0.heap.size = w.heap.size + 1 + 1 := f5
  clear f1 f4 f5
  refine (KC.out _ HB.out).mono ?_
  rintro e W1 ⟨rfl, hb⟩
  have HX' := Lib.hid (HX.out.keep hb HL.out)
  have HZ' := Lib.hid (HZ.out.next hb)
  have HB' := Lib.hid (below_next HB.out hb)
  have HL' := Lib.hid (Nat.lt_of_lt_of_le HL.out hb.size)
  clear HX HZ HB HL x0 x1 x2 x3 x4 hb KC
  have HX := HX'
  have HZ := HZ'
  have HB := HB'
  have HL := HL'
  clear HX' HZ' HB' HL'
  obtain ⟨x0, x1, x2, x3, x4⟩ := HX.out
  dsimp only at x0 x1 x2 x3 x4
  obtain ⟨y0, y1, y2, y3, y4⟩ := HZ.out.cells
  obtain ⟨q0, q1, q2, q3, q4⟩ := HZ.out.froz
  have O := outI HZ.out (X := noImg) (v := noV) (B := w.heap.size) (.inl ⟨rfl, rfl⟩) HB.out (Nat.le_refl _) (by omega)
  dsimp only [noImg, noV] at O
  obtain ⟨⟨k0, k1, k2, k3, k4⟩, hF, hB⟩ := O
  have HK := Lib.hid (And.intro k0 (And.intro k1 (And.intro k2 (And.intro k3 (And.intro k4 (And.intro hF hB))))))
  clear k0 k1 k2 k3 k4 hF hB
  go_wp2_with fail
  obtain ⟨k0, k1, k2, k3, k4, hF, hB⟩ := HK.out
  refine bodyPost_ret (v := .tuple #[imgV noImg noV, .int .i64 er]) ?_ rfl ⟨noV, rfl, hF, hB⟩
  simp [results, Tryz.results8, go_sem, imgV, noImg, noV, k0, k1, k2, k3, k4]
set_option maxRecDepth 100000 in
set_option maxHeartbeats 2000000 in
theorem create_name (v : IV) (m : Img) (name : ByteArray) (w : World) (h : ImgR w w.heap.size v m) (he : checkErr m = 0) (hsz : name.size ≤ 4611686018427387903) (hn : isName name = false) :
    Calls Tryz.prog 8 #[imgV m v, .string name] w (ImgOwn w.heap.size noImg 4 w) := by
  have SS := sound_of (check_is he).1
  obtain ⟨s1, s2, s3, s4, s5, S6⟩ := snaps_facts SS
  have KC' := fun W (hb : Below w.heap.size w W) => tcheck_any v m W (h.next hb)
  have KF' := fun W (hb : Below w.heap.size w W) => find_any2 v m name W (h.next hb) S6 (by have := h.plen; omega)
  have KN' := fun W (_ : Below w.heap.size w W) => name_any name W hsz
  obtain ⟨f1, f2, f4, f5⟩ := boxes2 w m.guest v
  rw [he] at KC'
  rw [hn] at KN'
  generalize insK m.snaps name = kk at *
  generalize m.snaps.any (named name) = rb at *
  obtain ⟨rA, rn, rc, sA, sn, sc, fA, fn, fc, pA, pn, pc⟩ := v
  dsimp only [imgV] at KC' KF' KN' f1 f2 f4 f5 ⊢
  have KC := Lib.hid KC'
  have KF := Lib.hid KF'
  have KN := Lib.hid KN'
  clear KC' KF' KN'
  have HX := Lib.hid f2
  obtain ⟨x0, x1, x2, x3, x4⟩ := f2
  dsimp only at x0 x1 x2 x3 x4
  clear h he hn SS s1 s2 s3 s4 s5 S6 hsz
  go_enter Tryz.func8, Tryz.ntmps8
  go_wp2_with fail
  generalize (w.alloc (.cells #[.int .i64 m.guest, .slice rA rn rc, .slice sA sn sc, .slice fA fn fc, .slice pA pn pc] 26)).alloc (.cells #[.int .i64 0, .slice none 0 0, .slice none 0 0, .slice none 0 0, .slice none 0 0] 26) = W0 at *
  have HL : Hid (w.heap.size < W0.heap.size) := Lib.hid (by omega)
  have HZ := Lib.hid f4
  have HB := Lib.hid f1
  have h2 : W0.heap.size = w.heap.size + 1 + 1 := f5
  clear f1 f4 f5
  refine (KC.out _ HB.out).mono ?_
  rintro e W1 ⟨rfl, hb⟩
  have HX' := Lib.hid (HX.out.keep hb HL.out)
  have HZ' := Lib.hid (HZ.out.next hb)
  have HB' := Lib.hid (below_next HB.out hb)
  have HL' := Lib.hid (Nat.lt_of_lt_of_le HL.out hb.size)
  clear HX HZ HB HL x0 x1 x2 x3 x4 hb KC
  have HX := HX'
  have HZ := HZ'
  have HB := HB'
  have HL := HL'
  clear HX' HZ' HB' HL'
  obtain ⟨x0, x1, x2, x3, x4⟩ := HX.out
  dsimp only at x0 x1 x2 x3 x4
  go_wp2_with fail
  refine (KF.out _ HB.out).mono ?_
  rintro e W2 ⟨rfl, hb⟩
  have HX' := Lib.hid (HX.out.keep hb HL.out)
  have HZ' := Lib.hid (HZ.out.next hb)
  have HB' := Lib.hid (below_next HB.out hb)
  have HL' := Lib.hid (Nat.lt_of_lt_of_le HL.out hb.size)
  clear HX HZ HB HL x0 x1 x2 x3 x4 hb KF
  have HX := HX'
  have HZ := HZ'
  have HB := HB'
  have HL := HL'
  clear HX' HZ' HB' HL'
  obtain ⟨x0, x1, x2, x3, x4⟩ := HX.out
  dsimp only at x0 x1 x2 x3 x4
  go_wp2_with fail
  refine (KN.out _ HB.out).mono ?_
  rintro e W3 ⟨rfl, hb⟩
  have HX' := Lib.hid (HX.out.keep hb HL.out)
  have HZ' := Lib.hid (HZ.out.next hb)
  have HB' := Lib.hid (below_next HB.out hb)
  have HL' := Lib.hid (Nat.lt_of_lt_of_le HL.out hb.size)
  clear HX HZ HB HL x0 x1 x2 x3 x4 hb KN
  have HX := HX'
  have HZ := HZ'
  have HB := HB'
  have HL := HL'
  clear HX' HZ' HB' HL'
  obtain ⟨x0, x1, x2, x3, x4⟩ := HX.out
  dsimp only at x0 x1 x2 x3 x4
  obtain ⟨y0, y1, y2, y3, y4⟩ := HZ.out.cells
  obtain ⟨q0, q1, q2, q3, q4⟩ := HZ.out.froz
  have O := outI HZ.out (X := noImg) (v := noV) (B := w.heap.size) (.inl ⟨rfl, rfl⟩) HB.out (Nat.le_refl _) (by omega)
  dsimp only [noImg, noV] at O
  obtain ⟨⟨k0, k1, k2, k3, k4⟩, hF, hB⟩ := O
  have HK := Lib.hid (And.intro k0 (And.intro k1 (And.intro k2 (And.intro k3 (And.intro k4 (And.intro hF hB))))))
  clear k0 k1 k2 k3 k4 hF hB
  go_wp2_with fail
  obtain ⟨k0, k1, k2, k3, k4, hF, hB⟩ := HK.out
  refine bodyPost_ret (v := .tuple #[imgV noImg noV, .int .i64 4]) ?_ rfl ⟨noV, rfl, hF, hB⟩
  simp [results, Tryz.results8, go_sem, imgV, noImg, noV, k0, k1, k2, k3, k4]
set_option maxRecDepth 100000 in
set_option maxHeartbeats 2000000 in
theorem create_there (v : IV) (m : Img) (name : ByteArray) (w : World) (h : ImgR w w.heap.size v m) (he : checkErr m = 0) (hsz : name.size ≤ 4611686018427387903) (hn : isName name = true) (ha : m.snaps.any (named name) = true) :
    Calls Tryz.prog 8 #[imgV m v, .string name] w (ImgOwn w.heap.size noImg 6 w) := by
  have SS := sound_of (check_is he).1
  obtain ⟨s1, s2, s3, s4, s5, S6⟩ := snaps_facts SS
  have KC' := fun W (hb : Below w.heap.size w W) => tcheck_any v m W (h.next hb)
  have KF' := fun W (hb : Below w.heap.size w W) => find_any2 v m name W (h.next hb) S6 (by have := h.plen; omega)
  have KN' := fun W (_ : Below w.heap.size w W) => name_any name W hsz
  obtain ⟨f1, f2, f4, f5⟩ := boxes2 w m.guest v
  rw [he] at KC'
  rw [hn] at KN'
  rw [ha] at KF'
  generalize insK m.snaps name = kk at *
  obtain ⟨rA, rn, rc, sA, sn, sc, fA, fn, fc, pA, pn, pc⟩ := v
  dsimp only [imgV] at KC' KF' KN' f1 f2 f4 f5 ⊢
  have KC := Lib.hid KC'
  have KF := Lib.hid KF'
  have KN := Lib.hid KN'
  clear KC' KF' KN'
  have HX := Lib.hid f2
  obtain ⟨x0, x1, x2, x3, x4⟩ := f2
  dsimp only at x0 x1 x2 x3 x4
  clear h he hn ha SS s1 s2 s3 s4 s5 S6 hsz
  go_enter Tryz.func8, Tryz.ntmps8
  go_wp2_with fail
  generalize (w.alloc (.cells #[.int .i64 m.guest, .slice rA rn rc, .slice sA sn sc, .slice fA fn fc, .slice pA pn pc] 26)).alloc (.cells #[.int .i64 0, .slice none 0 0, .slice none 0 0, .slice none 0 0, .slice none 0 0] 26) = W0 at *
  have HL : Hid (w.heap.size < W0.heap.size) := Lib.hid (by omega)
  have HZ := Lib.hid f4
  have HB := Lib.hid f1
  have h2 : W0.heap.size = w.heap.size + 1 + 1 := f5
  clear f1 f4 f5
  refine (KC.out _ HB.out).mono ?_
  rintro e W1 ⟨rfl, hb⟩
  have HX' := Lib.hid (HX.out.keep hb HL.out)
  have HZ' := Lib.hid (HZ.out.next hb)
  have HB' := Lib.hid (below_next HB.out hb)
  have HL' := Lib.hid (Nat.lt_of_lt_of_le HL.out hb.size)
  clear HX HZ HB HL x0 x1 x2 x3 x4 hb KC
  have HX := HX'
  have HZ := HZ'
  have HB := HB'
  have HL := HL'
  clear HX' HZ' HB' HL'
  obtain ⟨x0, x1, x2, x3, x4⟩ := HX.out
  dsimp only at x0 x1 x2 x3 x4
  go_wp2_with fail
  refine (KF.out _ HB.out).mono ?_
  rintro e W2 ⟨rfl, hb⟩
  have HX' := Lib.hid (HX.out.keep hb HL.out)
  have HZ' := Lib.hid (HZ.out.next hb)
  have HB' := Lib.hid (below_next HB.out hb)
  have HL' := Lib.hid (Nat.lt_of_lt_of_le HL.out hb.size)
  clear HX HZ HB HL x0 x1 x2 x3 x4 hb KF
  have HX := HX'
  have HZ := HZ'
  have HB := HB'
  have HL := HL'
  clear HX' HZ' HB' HL'
  obtain ⟨x0, x1, x2, x3, x4⟩ := HX.out
  dsimp only at x0 x1 x2 x3 x4
  go_wp2_with fail
  refine (KN.out _ HB.out).mono ?_
  rintro e W3 ⟨rfl, hb⟩
  have HX' := Lib.hid (HX.out.keep hb HL.out)
  have HZ' := Lib.hid (HZ.out.next hb)
  have HB' := Lib.hid (below_next HB.out hb)
  have HL' := Lib.hid (Nat.lt_of_lt_of_le HL.out hb.size)
  clear HX HZ HB HL x0 x1 x2 x3 x4 hb KN
  have HX := HX'
  have HZ := HZ'
  have HB := HB'
  have HL := HL'
  clear HX' HZ' HB' HL'
  obtain ⟨x0, x1, x2, x3, x4⟩ := HX.out
  dsimp only at x0 x1 x2 x3 x4
  obtain ⟨y0, y1, y2, y3, y4⟩ := HZ.out.cells
  obtain ⟨q0, q1, q2, q3, q4⟩ := HZ.out.froz
  have O := outI HZ.out (X := noImg) (v := noV) (B := w.heap.size) (.inl ⟨rfl, rfl⟩) HB.out (Nat.le_refl _) (by omega)
  dsimp only [noImg, noV] at O
  obtain ⟨⟨k0, k1, k2, k3, k4⟩, hF, hB⟩ := O
  have HK := Lib.hid (And.intro k0 (And.intro k1 (And.intro k2 (And.intro k3 (And.intro k4 (And.intro hF hB))))))
  clear k0 k1 k2 k3 k4 hF hB
  go_wp2_with fail
  obtain ⟨k0, k1, k2, k3, k4, hF, hB⟩ := HK.out
  refine bodyPost_ret (v := .tuple #[imgV noImg noV, .int .i64 6]) ?_ rfl ⟨noV, rfl, hF, hB⟩
  simp [results, Tryz.results8, go_sem, imgV, noImg, noV, k0, k1, k2, k3, k4]
set_option maxRecDepth 100000 in
set_option maxHeartbeats 2000000 in
theorem create_many (v : IV) (m : Img) (name : ByteArray) (w : World) (h : ImgR w w.heap.size v m) (he : checkErr m = 0) (hsz : name.size ≤ 4611686018427387903) (hn : isName name = true) (ha : m.snaps.any (named name) = false) (h3 : m.snaps.length = 3) :
    Calls Tryz.prog 8 #[imgV m v, .string name] w (ImgOwn w.heap.size noImg 2 w) := by
  have SS := sound_of (check_is he).1
  obtain ⟨s1, s2, s3, s4, s5, S6⟩ := snaps_facts SS
  have hp3 : v.pn = 3 := by have := h.plen; omega
  have KC' := fun W (hb : Below w.heap.size w W) => tcheck_any v m W (h.next hb)
  have KF' := fun W (hb : Below w.heap.size w W) => find_any2 v m name W (h.next hb) S6 (by have := h.plen; omega)
  have KN' := fun W (_ : Below w.heap.size w W) => name_any name W hsz
  obtain ⟨f1, f2, f4, f5⟩ := boxes2 w m.guest v
  rw [he] at KC'
  rw [hn] at KN'
  rw [ha] at KF'
  generalize insK m.snaps name = kk at *
  obtain ⟨rA, rn, rc, sA, sn, sc, fA, fn, fc, pA, pn, pc⟩ := v
  dsimp only [imgV] at KC' KF' KN' f1 f2 f4 f5 ⊢
  have KC := Lib.hid KC'
  have KF := Lib.hid KF'
  have KN := Lib.hid KN'
  clear KC' KF' KN'
  have HX := Lib.hid f2
  obtain ⟨x0, x1, x2, x3, x4⟩ := f2
  dsimp only at x0 x1 x2 x3 x4
  dsimp only at hp3
  subst hp3
  clear h he hn ha h3 SS s1 s2 s3 s4 s5 S6 hsz
  go_enter Tryz.func8, Tryz.ntmps8
  go_wp2_with fail
  generalize (w.alloc (.cells #[.int .i64 m.guest, .slice rA rn rc, .slice sA sn sc, .slice fA fn fc, .slice pA 3 pc] 26)).alloc (.cells #[.int .i64 0, .slice none 0 0, .slice none 0 0, .slice none 0 0, .slice none 0 0] 26) = W0 at *
  have HL : Hid (w.heap.size < W0.heap.size) := Lib.hid (by omega)
  have HZ := Lib.hid f4
  have HB := Lib.hid f1
  have h2 : W0.heap.size = w.heap.size + 1 + 1 := f5
  clear f1 f4 f5
  refine (KC.out _ HB.out).mono ?_
  rintro e W1 ⟨rfl, hb⟩
  have HX' := Lib.hid (HX.out.keep hb HL.out)
  have HZ' := Lib.hid (HZ.out.next hb)
  have HB' := Lib.hid (below_next HB.out hb)
  have HL' := Lib.hid (Nat.lt_of_lt_of_le HL.out hb.size)
  clear HX HZ HB HL x0 x1 x2 x3 x4 hb KC
  have HX := HX'
  have HZ := HZ'
  have HB := HB'
  have HL := HL'
  clear HX' HZ' HB' HL'
  obtain ⟨x0, x1, x2, x3, x4⟩ := HX.out
  dsimp only at x0 x1 x2 x3 x4
  go_wp2_with fail
  refine (KF.out _ HB.out).mono ?_
  rintro e W2 ⟨rfl, hb⟩
  have HX' := Lib.hid (HX.out.keep hb HL.out)
  have HZ' := Lib.hid (HZ.out.next hb)
  have HB' := Lib.hid (below_next HB.out hb)
  have HL' := Lib.hid (Nat.lt_of_lt_of_le HL.out hb.size)
  clear HX HZ HB HL x0 x1 x2 x3 x4 hb KF
  have HX := HX'
  have HZ := HZ'
  have HB := HB'
  have HL := HL'
  clear HX' HZ' HB' HL'
  obtain ⟨x0, x1, x2, x3, x4⟩ := HX.out
  dsimp only at x0 x1 x2 x3 x4
  go_wp2_with fail
  refine (KN.out _ HB.out).mono ?_
  rintro e W3 ⟨rfl, hb⟩
  have HX' := Lib.hid (HX.out.keep hb HL.out)
  have HZ' := Lib.hid (HZ.out.next hb)
  have HB' := Lib.hid (below_next HB.out hb)
  have HL' := Lib.hid (Nat.lt_of_lt_of_le HL.out hb.size)
  clear HX HZ HB HL x0 x1 x2 x3 x4 hb KN
  have HX := HX'
  have HZ := HZ'
  have HB := HB'
  have HL := HL'
  clear HX' HZ' HB' HL'
  obtain ⟨x0, x1, x2, x3, x4⟩ := HX.out
  dsimp only at x0 x1 x2 x3 x4
  obtain ⟨y0, y1, y2, y3, y4⟩ := HZ.out.cells
  obtain ⟨q0, q1, q2, q3, q4⟩ := HZ.out.froz
  have O := outI HZ.out (X := noImg) (v := noV) (B := w.heap.size) (.inl ⟨rfl, rfl⟩) HB.out (Nat.le_refl _) (by omega)
  dsimp only [noImg, noV] at O
  obtain ⟨⟨k0, k1, k2, k3, k4⟩, hF, hB⟩ := O
  have HK := Lib.hid (And.intro k0 (And.intro k1 (And.intro k2 (And.intro k3 (And.intro k4 (And.intro hF hB))))))
  clear k0 k1 k2 k3 k4 hF hB
  go_wp2_with fail
  obtain ⟨k0, k1, k2, k3, k4, hF, hB⟩ := HK.out
  refine bodyPost_ret (v := .tuple #[imgV noImg noV, .int .i64 2]) ?_ rfl ⟨noV, rfl, hF, hB⟩
  simp [results, Tryz.results8, go_sem, imgV, noImg, noV, k0, k1, k2, k3, k4]
end Go.Proofs.YtfilnnjanhjbeaaGreat
