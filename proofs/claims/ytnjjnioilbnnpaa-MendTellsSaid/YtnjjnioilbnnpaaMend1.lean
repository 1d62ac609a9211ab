/- mend.Leaks, mend.Repair, the reference's LeaksOf. Conditions: the image is read below the heap's size. -/
import Derived.Test.YtnjjnioilbnnpaaOwnT
import Derived.Test.YtnjjnioilbnnpaaPureM3
namespace Go.Proofs.Ytnjjnioilbnnpaa
open Go.RowKit Sl

/-- What a function answers that makes an image, and an error. -/
def ImgPair (base : Nat) (m : Img) (er : Int) (w : World) (e : Ending) (w' : World) : Prop := ∃ v', e = .returned (.tuple #[imgV m v', .int .i64 er]) ∧ ImgR w' w'.heap.size v' m ∧ Below base w w'
def noImg : Img := ⟨0, [], [], [], []⟩
def noV : IV := ⟨none, 0, 0, none, 0, 0, none, 0, 0, none, 0, 0⟩
theorem noImg_R (w : World) : ImgR w w.heap.size noV noImg :=
  ⟨Rd.none_, Nat.le_refl _, by show 0 ≤ _ ∧ 0 ≤ _; omega, SlotsR.none_, Nat.le_refl _, by show 0 ≤ _ ∧ 0 ≤ _; omega, Rd.none_, Nat.le_refl _, by show 0 ≤ _ ∧ 0 ≤ _; omega, SnapsR.none_, Nat.le_refl _, by show 0 ≤ _ ∧ 0 ≤ _; omega⟩
def repairV (m : Img) : Img := if shapeErr m = 0 then settled m else noImg

set_option maxRecDepth 100000 in
set_option maxHeartbeats 2000000 in
theorem leaks_any (v : IV) (m : Img) (w : World) (h : ImgR w w.heap.size v m) :
    Calls Try.prog 23 #[imgV m v] w fun e w' => e = .returned (.tuple #[.int .i64 (leaksV m), .int .i64 (shapeErr m)]) ∧ Below w.heap.size w w' := by
  have K1' := fun W (hb : Below w.heap.size w W) => tcounts_any v m W (h.next hb)
  by_cases he : shapeErr m = 0
  · have hcv : cntV m = countsOf m := by unfold cntV; rw [if_pos he]
    have hcl := countsOf_len m
    have h40 := (shape_cbd he).slots
    have R := Lib.hid (show leaksV m = (leaksTo m m.slots.length : Nat) from by unfold leaksV; rw [if_pos he]; rfl)
    rw [he, hcv] at K1'
    have K1 := Lib.hid K1'
    have HE := Lib.hid he
    have HI := Lib.hid h.slots
    have HSL := Lib.hid h.slen
    have hsl := h.slen
    obtain ⟨rA, rn, rc, sA, sn, sc, fA, fn, fc, pA, pn, pc⟩ := v
    dsimp only [imgV] at *
    have HB1 := below1 w (.cells #[.int .i64 m.guest, .slice rA rn rc, .slice sA sn sc, .slice fA fn fc, .slice pA pn pc] 26)
    have HX := Lib.hid (Box.new w m.guest ⟨rA, rn, rc, sA, sn, sc, fA, fn, fc, pA, pn, pc⟩ 26)
    have hz : w.heap.size < (w.alloc (.cells #[.int .i64 m.guest, .slice rA rn rc, .slice sA sn sc, .slice fA fn fc, .slice pA pn pc] 26)).heap.size := by simp
    have hsn : sn ≤ 40 := by omega
    have HCL := Lib.hid hcl
    clear K1' h he hcv hsl hcl
    go_enter Try.func23, Try.ntmps23
    go_wp2_with fail
    refine (K1.out _ HB1).mono ?_
    rintro e w1 ⟨A1, n1, c1, rfl, ho1, hb1, hc1, hm1⟩
    obtain rfl : n1 = sn := by have := ho1.1; simp [ints] at this; have := HCL.out; have := HSL.out; omega
    have HR := Lib.hid (Rd.of_own ho1)
    have T1 := Lib.hid (below_next HB1 hb1)
    have X1 := Lib.hid (HX.out.keep hb1 hz)
    have hz1 : w.heap.size < w1.heap.size := by have := hb1.size; omega
    clear ho1 hb1 HX hz HB1
    go_wp2_with fail
    go_loop [6, 19] (fun t i => ∃ k : Nat, k ≤ n1 ∧ i = .int .i64 k ∧ t = .int .i64 (leaksTo m k : Nat)) (fun _ i => n1 - (intOf i).toNat)
    case atStart => exact ⟨0, Nat.zero_le _, rfl, rfl⟩
    case round =>
      obtain ⟨k, hk, rfl, rfl⟩ := hrel
      have hle := leaksTo_le (m := m) k
      by_cases hlt : k < n1
      · obtain ⟨b5, o5, c, rfl, hb5, hx5, e5⟩ := HR.out.at1 hlt
        obtain ⟨b7, o7, s, tA, tn, tc, rfl, hb7, hx7, d0, d1, d2, hsv⟩ := HI.out.at_ (k := k) hlt
        have d0' := (T1.out.cell (p := ⟨b7, o7 + k * 3, none⟩) hb7).trans d0
        have HL := Lib.hid (leaksTo_at hx5 hx7)
        have hle2 := leaksTo_le (m := m) (k + 1)
        obtain ⟨b0, b1, b2, b3, b4⟩ := X1.out
        dsimp only at b0 b1 b2 b3 b4
        have k0 : (0 : Int) ≤ (k : Int) := by omega
        have k1 : (k : Int) < (n1 : Int) := by omega
        clear hx5 hx7 d0 d1 d2 hsv
        generalize leaksTo m k = lk at *
        cases h1 : (c == 0)
        · go_wp2_with fail
          go_round
          case rel => exact ⟨k + 1, by omega, by go_num, by rw [HL.out, h1]; rfl⟩
          case measure => simp [intOf]; omega
        · cases h2 : (s.kind != 0)
          · go_wp2_with fail
            go_round
            case rel => exact ⟨k + 1, by omega, by go_num, by rw [HL.out, h1, h2]; rfl⟩
            case measure => simp [intOf]; omega
          · go_wp2_with fail
            go_round
            case rel => exact ⟨k + 1, by omega, by go_num, by rw [HL.out, h1, h2]; go_num⟩
            case measure => simp [intOf]; omega
      · have HD := Lib.hid (show m.slots.length = k from by have := HSL.out; omega)
        go_wp2_with fail
        go_ret2
        exact ⟨ret_ii (by rw [R.out, HD.out]) HE.out, T1.out⟩
  · have R := Lib.hid (show leaksV m = 0 from by unfold leaksV; rw [if_neg he])
    have lz : (shapeErr m != 0) = true := by simpa using he
    generalize shapeErr m = er at *
    have K1 := Lib.hid K1'
    obtain ⟨rA, rn, rc, sA, sn, sc, fA, fn, fc, pA, pn, pc⟩ := v
    dsimp only [imgV] at K1 ⊢
    have HB1 := below1 w (.cells #[.int .i64 m.guest, .slice rA rn rc, .slice sA sn sc, .slice fA fn fc, .slice pA pn pc] 26)
    clear K1' h he
    go_enter Try.func23, Try.ntmps23
    go_wp2_with fail
    refine (K1.out _ HB1).mono ?_
    rintro e w1 ⟨A1, n1, c1, rfl, ho1, hb1, hc1, hm1⟩
    go_wp2_with fail
    go_ret2
    exact ⟨ret_ii R.out rfl, below_next HB1 hb1⟩

set_option maxRecDepth 100000 in
set_option maxHeartbeats 2000000 in
theorem repair_any (v : IV) (m : Img) (w : World) (h : ImgR w w.heap.size v m) :
    Calls Try.prog 24 #[imgV m v] w (ImgPair w.heap.size (repairV m) (shapeErr m) w) := by
  have K1' := fun W (hb : Below w.heap.size w W) => shape_any v m W (h.next hb)
  by_cases he : shapeErr m = 0
  · have hcb := shape_cbd he
    have hwi := shape_wired he
    have R := Lib.hid (show repairV m = settled m from by unfold repairV; rw [if_pos he])
    have K2 := Lib.hid (fun W (hb : Below w.heap.size w W) => own_any v m W (h.next hb) hcb (by rw [(sh_is he).1.refs]; exact hcb.slots))
    have K3 := Lib.hid (fun b base tg v' q p W (ho : OwnI W base tg v' q p m) (hx : Box W b m.guest v') (hB : BoxB W b) (hb : base ≤ b) => settle_any b base tg v' q p m W ho hx hB hb hcb hwi)
    rw [he] at K1'
    have K1 := Lib.hid K1'
    have HE := Lib.hid he
    obtain ⟨rA, rn, rc, sA, sn, sc, fA, fn, fc, pA, pn, pc⟩ := v
    dsimp only [imgV] at K1 K2 ⊢
    have HB1 := below_next (below1 w (.cells #[.int .i64 m.guest, .slice rA rn rc, .slice sA sn sc, .slice fA fn fc, .slice pA pn pc] 26)) (below1 _ (.cells #[.int .i64 0, .slice none 0 0, .slice none 0 0, .slice none 0 0, .slice none 0 0] 26))
    have HX := Lib.hid ((Box.new w m.guest ⟨rA, rn, rc, sA, sn, sc, fA, fn, fc, pA, pn, pc⟩ 26).keep (below1 _ (.cells #[.int .i64 0, .slice none 0 0, .slice none 0 0, .slice none 0 0, .slice none 0 0] 26)) (by simp))
    have HZ' := ZB.new (w.alloc (.cells #[.int .i64 m.guest, .slice rA rn rc, .slice sA sn sc, .slice fA fn fc, .slice pA pn pc] 26))
    rw [World.size_alloc] at HZ'
    have HZ := Lib.hid HZ'
    have hz : w.heap.size < ((w.alloc (.cells #[.int .i64 m.guest, .slice rA rn rc, .slice sA sn sc, .slice fA fn fc, .slice pA pn pc] 26)).alloc (.cells #[.int .i64 0, .slice none 0 0, .slice none 0 0, .slice none 0 0, .slice none 0 0] 26)).heap.size := by simp <;> omega
    clear K1' h he hcb hwi HZ'
    go_enter Try.func24, Try.ntmps24
    go_wp2_with fail
    refine (K1.out _ HB1).mono ?_
    rintro e w1 ⟨rfl, hb1⟩
    have T1 := below_next HB1 hb1
    have Z1 := Lib.hid (HZ.out.next hb1)
    obtain ⟨b0, b1, b2, b3, b4⟩ := HX.out.keep hb1 hz
    dsimp only at b0 b1 b2 b3 b4
    clear hb1 HX HZ hz HB1
    go_wp2_with fail
    refine (K2.out _ T1).mono ?_
    rintro e w2 ⟨v2, tg, q, p, rfl, ho2, hb2⟩
    have T2 := below_next T1 hb2
    have Z2 := Lib.hid (Z1.out.next hb2)
    have HO := Lib.hid ho2
    have hz2 : w.heap.size + 1 < w2.heap.size := (Array.getElem?_eq_some_iff.1 Z2.out.heap).1
    clear ho2 b0 b1 b2 b3 b4 K2
    obtain ⟨rA2, rn2, rc2, sA2, sn2, sc2, fA2, fn2, fc2, pA2, pn2, pc2⟩ := v2
    dsimp only [imgV] at HO ⊢
    have X3 := Box.new w2 m.guest ⟨rA2, rn2, rc2, sA2, sn2, sc2, fA2, fn2, fc2, pA2, pn2, pc2⟩ 26
    have E3 := BoxB.new w2 #[.int .i64 m.guest, .slice rA2 rn2 rc2, .slice sA2 sn2 sc2, .slice fA2 fn2 fc2, .slice pA2 pn2 pc2]
    have K4 := Lib.hid (K3.out w2.heap.size w1.heap.size tg _ q p _ (HO.out.next (below1 w2 _)) X3 E3 hb2.size)
    have T3 := below_next T2 (below1 w2 (.cells #[.int .i64 m.guest, .slice rA2 rn2 rc2, .slice sA2 sn2 sc2, .slice fA2 fn2 fc2, .slice pA2 pn2 pc2] 26))
    have Z3 := Lib.hid (Z2.out.next (below1 w2 (.cells #[.int .i64 m.guest, .slice rA2 rn2 rc2, .slice sA2 sn2 sc2, .slice fA2 fn2 fc2, .slice pA2 pn2 pc2] 26)))
    have hz1 := Lib.hid (T1.size)
    have hlt1 : w.heap.size + 1 < w1.heap.size := (Array.getElem?_eq_some_iff.1 Z1.out.heap).1
    clear hb2 X3 E3 K3 T2
    go_wp2_with fail
    refine K4.out.mono ?_
    rintro e w4 ⟨rfl, v4, tg4, q4, X4, I4, E4, hb4⟩
    have T4 := Lib.hid (T3.trans (hb4.mono hz1.out))
    have Z4 : ZB w4 (w.heap.size + 1) := ⟨(hb4.block _ hlt1).trans Z3.out.heap⟩
    have h5 := five Z4.box.1 Z4.box.2 m.guest v4
    have hI5 := Lib.hid (I4.kept h5.2.2 Z4.box.1.ty (by decide) (by decide) (by decide)).imgR
    have hb5 := Lib.hid (T4.out.grown h5.2.2 T4.out.size (fun j e => by injection e with e; omega))
    obtain ⟨k0, k1, k2, k3, k4⟩ := h5.1
    have HK := Lib.hid (And.intro k0 (And.intro k1 (And.intro k2 (And.intro k3 k4))))
    obtain ⟨b0, b1, b2, b3, b4⟩ := X4
    obtain ⟨y0, y1, y2, y3, y4⟩ := Z4.cells
    obtain ⟨x0, x1, x2, x3, x4⟩ := Z4.froz
    clear h5 k0 k1 k2 k3 k4 T3
    go_wp2_with fail
    obtain ⟨k0, k1, k2, k3, k4⟩ := HK.out
    refine bodyPost_ret (v := .tuple #[imgV (settled m) v4, .int .i64 0]) ?_ rfl ⟨v4, by rw [R.out, HE.out], by rw [R.out]; exact hI5.out, hb5.out⟩
    simp [results, Try.results24, go_sem, k0, k1, k2, k3, k4]
    rfl
  · have R := Lib.hid (show repairV m = noImg from by unfold repairV; rw [if_neg he])
    have lz : (shapeErr m != 0) = true := by simpa using he
    generalize shapeErr m = er at *
    have K1 := Lib.hid K1'
    obtain ⟨rA, rn, rc, sA, sn, sc, fA, fn, fc, pA, pn, pc⟩ := v
    dsimp only [imgV] at K1 ⊢
    have HB1 := below_next (below1 w (.cells #[.int .i64 m.guest, .slice rA rn rc, .slice sA sn sc, .slice fA fn fc, .slice pA pn pc] 26)) (below1 _ (.cells #[.int .i64 0, .slice none 0 0, .slice none 0 0, .slice none 0 0, .slice none 0 0] 26))
    have HZ' := ZB.new (w.alloc (.cells #[.int .i64 m.guest, .slice rA rn rc, .slice sA sn sc, .slice fA fn fc, .slice pA pn pc] 26))
    rw [World.size_alloc] at HZ'
    have HZ := Lib.hid HZ'
    clear K1' h he HZ'
    go_enter Try.func24, Try.ntmps24
    go_wp2_with fail
    refine (K1.out _ HB1).mono ?_
    rintro e w1 ⟨rfl, hb1⟩
    have Z4 := HZ.out.next hb1
    have T4 := Lib.hid (below_next HB1 hb1)
    have h5 := five Z4.box.1 Z4.box.2 0 noV
    have hb5 := Lib.hid (T4.out.grown h5.2.2 T4.out.size (fun j e => by injection e with e; omega))
    have HK := Lib.hid h5.1
    obtain ⟨y0, y1, y2, y3, y4⟩ := Z4.cells
    obtain ⟨x0, x1, x2, x3, x4⟩ := Z4.froz
    clear h5
    go_wp2_with fail
    obtain ⟨k0, k1, k2, k3, k4⟩ := HK.out
    dsimp only [noV] at k0 k1 k2 k3 k4
    refine bodyPost_ret (v := .tuple #[imgV noImg noV, .int .i64 er]) ?_ rfl ⟨noV, by rw [R.out], by rw [R.out]; exact noImg_R _, hb5.out⟩
    simp [results, Try.results24, go_sem, k0, k1, k2, k3, k4]
    exact ⟨rfl, ⟨rfl, rfl, rfl⟩, ⟨rfl, rfl, rfl⟩, ⟨rfl, rfl, rfl⟩, rfl, rfl, rfl⟩
end Go.Proofs.Ytnjjnioilbnnpaa
