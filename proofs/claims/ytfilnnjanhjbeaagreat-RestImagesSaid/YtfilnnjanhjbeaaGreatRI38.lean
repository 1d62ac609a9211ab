/- Texts of the proof of restImages_holds: RSnApi. Conditions: as each text says. -/
import Derived.Test.YtfilnnjanhjbeaaGreatRI34
import Derived.Test.YtfilnnjanhjbeaaGreatRI37
import Derived.Test.YtfilnnjanhjbeaaGreatRI20
namespace Go.Proofs.YtfilnnjanhjbeaaGreat
open Go.RowKit Sl
set_option maxRecDepth 100000 in
set_option maxHeartbeats 2000000 in
theorem rcreate_no (v : IV) (m : Img) (name : ByteArray) (w : World) (h : ImgR w w.heap.size v m) (he : checkErr m ≠ 0) :
    Calls Tryz.prog 12 #[imgV m v, .string name] w (ImgOwn w.heap.size noImg (checkErr m) w) := by
  have KC' := fun W (hb : Below w.heap.size w W) => rcheckimg_any v m W (h.next hb)
  obtain ⟨f1, f2, f4, f5⟩ := boxes2 w m.guest v
  have lz : (checkErr m != 0) = true := by simpa using he
  generalize checkErr m = er at *
  obtain ⟨rA, rn, rc, sA, sn, sc, fA, fn, fc, pA, pn, pc⟩ := v
  dsimp only [imgV] at KC' f1 f2 f4 f5 ⊢
  have KC := Lib.hid KC'
  clear KC'
  have HX := Lib.hid f2
  obtain ⟨x0, x1, x2, x3, x4⟩ := f2
  dsimp only at x0 x1 x2 x3 x4
  clear h he
  go_enter Tryz.func12, Tryz.ntmps12
  go_wp2_with fail
  generalize (w.alloc (.cells #[.int .i64 m.guest, .slice rA rn rc, .slice sA sn sc, .slice fA fn fc, .slice pA pn pc] 26)).alloc (.cells #[.int .i64 0, .slice none 0 0, .slice none 0 0, .slice none 0 0, .slice none 0 0] 26) = W0 at *
  have HL : Hid (w.heap.size < W0.heap.size) := Lib.hid (by omega)
  have HZ := Lib.hid f4
  have HB := Lib.hid f1
  have h2 : W0.heap.size = w.heap.size + 1 + 1 := f5
  clear f1 f4 f5
  refine (KC.out _ HB.out).mono ?_
  rintro e W1 ⟨rfl, hb⟩
  have HX' := Lib.hid (HX.out.keep hb HL.out)
  have HZ' := Lib.hid (HZ.out.next hb)
  have HB' := Lib.hid (below_next HB.out hb)
  have HL' := Lib.hid (Nat.lt_of_lt_of_le HL.out hb.size)
  clear HX HZ HB HL x0 x1 x2 x3 x4 hb KC
  have HX := HX'
  have HZ := HZ'
  have HB := HB'
  have HL := HL'
  clear HX' HZ' HB' HL'
  obtain ⟨x0, x1, x2, x3, x4⟩ := HX.out
  dsimp only at x0 x1 x2 x3 x4
  obtain ⟨y0, y1, y2, y3, y4⟩ := HZ.out.cells
  obtain ⟨q0, q1, q2, q3, q4⟩ := HZ.out.froz
  have O := outI HZ.out (X := noImg) (v := noV) (B := w.heap.size) (.inl ⟨rfl, rfl⟩) HB.out (Nat.le_refl _) (by omega)
  dsimp only [noImg, noV] at O
  obtain ⟨⟨k0, k1, k2, k3, k4⟩, hF, hB⟩ := O
  have HK := Lib.hid (And.intro k0 (And.intro k1 (And.intro k2 (And.intro k3 (And.intro k4 (And.intro hF hB))))))
  clear k0 k1 k2 k3 k4 hF hB
  go_wp2_with fail
  obtain ⟨k0, k1, k2, k3, k4, hF, hB⟩ := HK.out
  refine bodyPost_ret (v := .tuple #[imgV noImg noV, .int .i64 er]) ?_ rfl ⟨noV, rfl, hF, hB⟩
  simp [results, Tryz.results12, go_sem, imgV, noImg, noV, k0, k1, k2, k3, k4]
set_option maxRecDepth 100000 in
set_option maxHeartbeats 2000000 in
theorem rcreate_name (v : IV) (m : Img) (name : ByteArray) (w : World) (h : ImgR w w.heap.size v m) (he : checkErr m = 0) (hsz : name.size ≤ 4611686018427387903) (hn : isName name = false) :
    Calls Tryz.prog 12 #[imgV m v, .string name] w (ImgOwn w.heap.size noImg 4 w) := by
  have KC' := fun W (hb : Below w.heap.size w W) => rcheckimg_any v m W (h.next hb)
  have KN' := fun W (_ : Below w.heap.size w W) => (rname_any name W hsz).mono (R' := fun e w' => e = .returned (.bool (isName name)) ∧ Below W.heap.size W w') (fun e w' hh => ⟨hh.1, hh.2 ▸ Below.refl _ _⟩)
  obtain ⟨f1, f2, f4, f5⟩ := boxes2 w m.guest v
  rw [he] at KC'
  rw [hn] at KN'
  obtain ⟨rA, rn, rc, sA, sn, sc, fA, fn, fc, pA, pn, pc⟩ := v
  dsimp only [imgV] at KC' KN' f1 f2 f4 f5 ⊢
  have KC := Lib.hid KC'
  have KN := Lib.hid KN'
  clear KC' KN'
  have HX := Lib.hid f2
  obtain ⟨x0, x1, x2, x3, x4⟩ := f2
  dsimp only at x0 x1 x2 x3 x4
  clear h he hn hsz
  go_enter Tryz.func12, Tryz.ntmps12
  go_wp2_with fail
  generalize (w.alloc (.cells #[.int .i64 m.guest, .slice rA rn rc, .slice sA sn sc, .slice fA fn fc, .slice pA pn pc] 26)).alloc (.cells #[.int .i64 0, .slice none 0 0, .slice none 0 0, .slice none 0 0, .slice none 0 0] 26) = W0 at *
  have HL : Hid (w.heap.size < W0.heap.size) := Lib.hid (by omega)
  have HZ := Lib.hid f4
  have HB := Lib.hid f1
  have h2 : W0.heap.size = w.heap.size + 1 + 1 := f5
  clear f1 f4 f5
  refine (KC.out _ HB.out).mono ?_
  rintro e W1 ⟨rfl, hb⟩
  have HX' := Lib.hid (HX.out.keep hb HL.out)
  have HZ' := Lib.hid (HZ.out.next hb)
  have HB' := Lib.hid (below_next HB.out hb)
  have HL' := Lib.hid (Nat.lt_of_lt_of_le HL.out hb.size)
  clear HX HZ HB HL x0 x1 x2 x3 x4 hb KC
  have HX := HX'
  have HZ := HZ'
  have HB := HB'
  have HL := HL'
  clear HX' HZ' HB' HL'
  obtain ⟨x0, x1, x2, x3, x4⟩ := HX.out
  dsimp only at x0 x1 x2 x3 x4
  go_wp2_with fail
  refine (KN.out _ HB.out).mono ?_
  rintro e W2 ⟨rfl, hb⟩
  have HX' := Lib.hid (HX.out.keep hb HL.out)
  have HZ' := Lib.hid (HZ.out.next hb)
  have HB' := Lib.hid (below_next HB.out hb)
  have HL' := Lib.hid (Nat.lt_of_lt_of_le HL.out hb.size)
  clear HX HZ HB HL x0 x1 x2 x3 x4 hb KN
  have HX := HX'
  have HZ := HZ'
  have HB := HB'
  have HL := HL'
  clear HX' HZ' HB' HL'
  obtain ⟨x0, x1, x2, x3, x4⟩ := HX.out
  dsimp only at x0 x1 x2 x3 x4
  obtain ⟨y0, y1, y2, y3, y4⟩ := HZ.out.cells
  obtain ⟨q0, q1, q2, q3, q4⟩ := HZ.out.froz
  have O := outI HZ.out (X := noImg) (v := noV) (B := w.heap.size) (.inl ⟨rfl, rfl⟩) HB.out (Nat.le_refl _) (by omega)
  dsimp only [noImg, noV] at O
  obtain ⟨⟨k0, k1, k2, k3, k4⟩, hF, hB⟩ := O
  have HK := Lib.hid (And.intro k0 (And.intro k1 (And.intro k2 (And.intro k3 (And.intro k4 (And.intro hF hB))))))
  clear k0 k1 k2 k3 k4 hF hB
  go_wp2_with fail
  obtain ⟨k0, k1, k2, k3, k4, hF, hB⟩ := HK.out
  refine bodyPost_ret (v := .tuple #[imgV noImg noV, .int .i64 4]) ?_ rfl ⟨noV, rfl, hF, hB⟩
  simp [results, Tryz.results12, go_sem, imgV, noImg, noV, k0, k1, k2, k3, k4]
set_option maxRecDepth 100000 in
set_option maxHeartbeats 2000000 in
theorem rcreate_there (v : IV) (m : Img) (name : ByteArray) (w : World) (h : ImgR w w.heap.size v m) (he : checkErr m = 0) (hsz : name.size ≤ 4611686018427387903) (hn : isName name = true) (ha : m.snaps.any (named name) = true) :
    Calls Tryz.prog 12 #[imgV m v, .string name] w (ImgOwn w.heap.size noImg 6 w) := by
  obtain ⟨k0, _, hk0, _, _, hik, _, _⟩ := past_ok he ha
  have hk3 : k0 ≤ 3 := by have := (sizesOk_is (sound_of (check_is he).1).sizes).2.2; omega
  have KC' := fun W (hb : Below w.heap.size w W) => rcheckimg_any v m W (h.next hb)
  have KN' := fun W (_ : Below w.heap.size w W) => (rname_any name W hsz).mono (R' := fun e w' => e = .returned (.bool (isName name)) ∧ Below W.heap.size W w') (fun e w' hh => ⟨hh.1, hh.2 ▸ Below.refl _ _⟩)
  have KS' := fun W (hb : Below w.heap.size w W) => rsnapAt_any v m name W (h.next hb)
  obtain ⟨f1, f2, f4, f5⟩ := boxes2 w m.guest v
  rw [he] at KC'
  rw [hn] at KN'
  rw [hik] at KS'
  obtain ⟨rA, rn, rc, sA, sn, sc, fA, fn, fc, pA, pn, pc⟩ := v
  dsimp only [imgV] at KC' KN' KS' f1 f2 f4 f5 ⊢
  have KC := Lib.hid KC'
  have KN := Lib.hid KN'
  have KS := Lib.hid KS'
  clear KC' KN' KS'
  have HX := Lib.hid f2
  obtain ⟨x0, x1, x2, x3, x4⟩ := f2
  dsimp only at x0 x1 x2 x3 x4
  have e0 : (0 : Int) ≤ (k0 : Int) := by omega
  clear h he hn ha hsz hik hk0
  go_enter Tryz.func12, Tryz.ntmps12
  go_wp2_with fail
  generalize (w.alloc (.cells #[.int .i64 m.guest, .slice rA rn rc, .slice sA sn sc, .slice fA fn fc, .slice pA pn pc] 26)).alloc (.cells #[.int .i64 0, .slice none 0 0, .slice none 0 0, .slice none 0 0, .slice none 0 0] 26) = W0 at *
  have HL : Hid (w.heap.size < W0.heap.size) := Lib.hid (by omega)
  have HZ := Lib.hid f4
  have HB := Lib.hid f1
  have h2 : W0.heap.size = w.heap.size + 1 + 1 := f5
  clear f1 f4 f5
  refine (KC.out _ HB.out).mono ?_
  rintro e W1 ⟨rfl, hb⟩
  have HX' := Lib.hid (HX.out.keep hb HL.out)
  have HZ' := Lib.hid (HZ.out.next hb)
  have HB' := Lib.hid (below_next HB.out hb)
  have HL' := Lib.hid (Nat.lt_of_lt_of_le HL.out hb.size)
  clear HX HZ HB HL x0 x1 x2 x3 x4 hb KC
  have HX := HX'
  have HZ := HZ'
  have HB := HB'
  have HL := HL'
  clear HX' HZ' HB' HL'
  obtain ⟨x0, x1, x2, x3, x4⟩ := HX.out
  dsimp only at x0 x1 x2 x3 x4
  go_wp2_with fail
  refine (KN.out _ HB.out).mono ?_
  rintro e W2 ⟨rfl, hb⟩
  have HX' := Lib.hid (HX.out.keep hb HL.out)
  have HZ' := Lib.hid (HZ.out.next hb)
  have HB' := Lib.hid (below_next HB.out hb)
  have HL' := Lib.hid (Nat.lt_of_lt_of_le HL.out hb.size)
  clear HX HZ HB HL x0 x1 x2 x3 x4 hb KN
  have HX := HX'
  have HZ := HZ'
  have HB := HB'
  have HL := HL'
  clear HX' HZ' HB' HL'
  obtain ⟨x0, x1, x2, x3, x4⟩ := HX.out
  dsimp only at x0 x1 x2 x3 x4
  go_wp2_with fail
  refine (KS.out _ HB.out).mono ?_
  rintro e W3 ⟨rfl, hb⟩
  have HX' := Lib.hid (HX.out.keep hb HL.out)
  have HZ' := Lib.hid (HZ.out.next hb)
  have HB' := Lib.hid (below_next HB.out hb)
  have HL' := Lib.hid (Nat.lt_of_lt_of_le HL.out hb.size)
  clear HX HZ HB HL x0 x1 x2 x3 x4 hb KS
  have HX := HX'
  have HZ := HZ'
  have HB := HB'
  have HL := HL'
  clear HX' HZ' HB' HL'
  obtain ⟨x0, x1, x2, x3, x4⟩ := HX.out
  dsimp only at x0 x1 x2 x3 x4
  obtain ⟨y0, y1, y2, y3, y4⟩ := HZ.out.cells
  obtain ⟨q0, q1, q2, q3, q4⟩ := HZ.out.froz
  have O := outI HZ.out (X := noImg) (v := noV) (B := w.heap.size) (.inl ⟨rfl, rfl⟩) HB.out (Nat.le_refl _) (by omega)
  dsimp only [noImg, noV] at O
  obtain ⟨⟨k0, k1, k2, k3, k4⟩, hF, hB⟩ := O
  have HK := Lib.hid (And.intro k0 (And.intro k1 (And.intro k2 (And.intro k3 (And.intro k4 (And.intro hF hB))))))
  clear k0 k1 k2 k3 k4 hF hB
  go_wp2_with fail
  obtain ⟨k0, k1, k2, k3, k4, hF, hB⟩ := HK.out
  refine bodyPost_ret (v := .tuple #[imgV noImg noV, .int .i64 6]) ?_ rfl ⟨noV, rfl, hF, hB⟩
  simp [results, Tryz.results12, go_sem, imgV, noImg, noV, k0, k1, k2, k3, k4]
set_option maxRecDepth 100000 in
set_option maxHeartbeats 2000000 in
theorem rcreate_many (v : IV) (m : Img) (name : ByteArray) (w : World) (h : ImgR w w.heap.size v m) (he : checkErr m = 0) (hsz : name.size ≤ 4611686018427387903) (hn : isName name = true) (ha : m.snaps.any (named name) = false) (h3 : m.snaps.length = 3) :
    Calls Tryz.prog 12 #[imgV m v, .string name] w (ImgOwn w.heap.size noImg 2 w) := by
  have hp3 : v.pn = 3 := by have := h.plen; omega
  have KC' := fun W (hb : Below w.heap.size w W) => rcheckimg_any v m W (h.next hb)
  have KN' := fun W (_ : Below w.heap.size w W) => (rname_any name W hsz).mono (R' := fun e w' => e = .returned (.bool (isName name)) ∧ Below W.heap.size W w') (fun e w' hh => ⟨hh.1, hh.2 ▸ Below.refl _ _⟩)
  have KS' := fun W (hb : Below w.heap.size w W) => rsnapAt_any v m name W (h.next hb)
  obtain ⟨f1, f2, f4, f5⟩ := boxes2 w m.guest v
  rw [he] at KC'
  rw [hn] at KN'
  rw [(past_none he ha).2.2] at KS'
  obtain ⟨rA, rn, rc, sA, sn, sc, fA, fn, fc, pA, pn, pc⟩ := v
  dsimp only [imgV] at KC' KN' KS' f1 f2 f4 f5 ⊢
  have KC := Lib.hid KC'
  have KN := Lib.hid KN'
  have KS := Lib.hid KS'
  clear KC' KN' KS'
  have HX := Lib.hid f2
  obtain ⟨x0, x1, x2, x3, x4⟩ := f2
  dsimp only at x0 x1 x2 x3 x4
  dsimp only at hp3
  subst hp3
  clear h he hn ha h3 hsz
  go_enter Tryz.func12, Tryz.ntmps12
  go_wp2_with fail
  generalize (w.alloc (.cells #[.int .i64 m.guest, .slice rA rn rc, .slice sA sn sc, .slice fA fn fc, .slice pA 3 pc] 26)).alloc (.cells #[.int .i64 0, .slice none 0 0, .slice none 0 0, .slice none 0 0, .slice none 0 0] 26) = W0 at *
  have HL : Hid (w.heap.size < W0.heap.size) := Lib.hid (by omega)
  have HZ := Lib.hid f4
  have HB := Lib.hid f1
  have h2 : W0.heap.size = w.heap.size + 1 + 1 := f5
  clear f1 f4 f5
  refine (KC.out _ HB.out).mono ?_
  rintro e W1 ⟨rfl, hb⟩
  have HX' := Lib.hid (HX.out.keep hb HL.out)
  have HZ' := Lib.hid (HZ.out.next hb)
  have HB' := Lib.hid (below_next HB.out hb)
  have HL' := Lib.hid (Nat.lt_of_lt_of_le HL.out hb.size)
  clear HX HZ HB HL x0 x1 x2 x3 x4 hb KC
  have HX := HX'
  have HZ := HZ'
  have HB := HB'
  have HL := HL'
  clear HX' HZ' HB' HL'
  obtain ⟨x0, x1, x2, x3, x4⟩ := HX.out
  dsimp only at x0 x1 x2 x3 x4
  go_wp2_with fail
  refine (KN.out _ HB.out).mono ?_
  rintro e W2 ⟨rfl, hb⟩
  have HX' := Lib.hid (HX.out.keep hb HL.out)
  have HZ' := Lib.hid (HZ.out.next hb)
  have HB' := Lib.hid (below_next HB.out hb)
  have HL' := Lib.hid (Nat.lt_of_lt_of_le HL.out hb.size)
  clear HX HZ HB HL x0 x1 x2 x3 x4 hb KN
  have HX := HX'
  have HZ := HZ'
  have HB := HB'
  have HL := HL'
  clear HX' HZ' HB' HL'
  obtain ⟨x0, x1, x2, x3, x4⟩ := HX.out
  dsimp only at x0 x1 x2 x3 x4
  go_wp2_with fail
  refine (KS.out _ HB.out).mono ?_
  rintro e W3 ⟨rfl, hb⟩
  have HX' := Lib.hid (HX.out.keep hb HL.out)
  have HZ' := Lib.hid (HZ.out.next hb)
  have HB' := Lib.hid (below_next HB.out hb)
  have HL' := Lib.hid (Nat.lt_of_lt_of_le HL.out hb.size)
  clear HX HZ HB HL x0 x1 x2 x3 x4 hb KS
  have HX := HX'
  have HZ := HZ'
  have HB := HB'
  have HL := HL'
  clear HX' HZ' HB' HL'
  obtain ⟨x0, x1, x2, x3, x4⟩ := HX.out
  dsimp only at x0 x1 x2 x3 x4
  obtain ⟨y0, y1, y2, y3, y4⟩ := HZ.out.cells
  obtain ⟨q0, q1, q2, q3, q4⟩ := HZ.out.froz
  have O := outI HZ.out (X := noImg) (v := noV) (B := w.heap.size) (.inl ⟨rfl, rfl⟩) HB.out (Nat.le_refl _) (by omega)
  dsimp only [noImg, noV] at O
  obtain ⟨⟨k0, k1, k2, k3, k4⟩, hF, hB⟩ := O
  have HK := Lib.hid (And.intro k0 (And.intro k1 (And.intro k2 (And.intro k3 (And.intro k4 (And.intro hF hB))))))
  clear k0 k1 k2 k3 k4 hF hB
  go_wp2_with fail
  obtain ⟨k0, k1, k2, k3, k4, hF, hB⟩ := HK.out
  refine bodyPost_ret (v := .tuple #[imgV noImg noV, .int .i64 2]) ?_ rfl ⟨noV, rfl, hF, hB⟩
  simp [results, Tryz.results12, go_sem, imgV, noImg, noV, k0, k1, k2, k3, k4]
end Go.Proofs.YtfilnnjanhjbeaaGreat
