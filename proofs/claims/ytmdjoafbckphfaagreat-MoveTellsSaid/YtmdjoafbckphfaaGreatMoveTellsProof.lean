/- The texts MovU, MovTells, MoveTellsProof in one. Conditions: as each says. -/
import Derived.Test.YtmdjoafbckphfaaGreatMovA
import Derived.Test.YtmdjoafbckphfaaGreatRWritesC
import Derived.Test.YtmdjoafbckphfaaGreatMovBeg
import Derived.Test.YtmdjoafbckphfaaGreatSameImg
import Derived.Test.YtmdjoafbckphfaaGreatRowA
import Derived.SizedLaws
-- MovU: The reference's UpOf. Conditions: what is handed in is read below the heap's size. (Printed by gen_movu.py.)
namespace Go
section
variable {P : Program} {ops : Array Oper} {Q : Exit → Act → World → Prop} {md : Region.Mode} {S : World → Prop} {c : Nat}
/-- Numbers i and j alone may come up. -/
theorem wpAnyZ_two {i j : Nat} {oi oj : Oper} {fuel : Nat} {listed : Array Bool} {a : Act} {w : World} (hr : Region.ready md ops listed = [i, j]) (hi : ops[i]? = some oi) (hj : ops[j]? = some oj)
    (h1 : ∀ K' : Act → World → Prop, Shut (∀ a w, (i < c → S w) → wpAnyZ P md ops Q S c fuel (listed.setIfInBounds i true) a w → K' a w) → if Region.wanted oi (yielded ops a.tmps) = true then Oper.wp P oi a w K' Q else K' (a.put oi.dst undef) w)
    (h2 : ∀ K' : Act → World → Prop, Shut (∀ a w, (j < c → S w) → wpAnyZ P md ops Q S c fuel (listed.setIfInBounds j true) a w → K' a w) → if Region.wanted oj (yielded ops a.tmps) = true then Oper.wp P oj a w K' Q else K' (a.put oj.dst undef) w) :
    wpAnyZ P md ops Q S c (fuel + 1) listed a w :=
  ⟨fun h0 => (by rw [hr] at h0; cases h0), fun k hk => by
    rw [hr] at hk
    rcases List.mem_cons.1 hk with rfl | hk
    · exact wpOp_step hi (fun K' hK => h1 K' (fun a w hS hW => hK a w ⟨hS, hW⟩))
    · obtain rfl : k = j := by simpa using hk
      exact wpOp_step hj (fun K' hK => h2 K' (fun a w hS hW => hK a w ⟨hS, hW⟩))⟩
end
end Go
namespace Go.Proofs.YtmdjoafbckphfaaGreat
open Go.RowKit Sl
set_option maxRecDepth 100000 in
set_option maxHeartbeats 2000000 in
theorem rup_no (A : Option Addr) (n c : Nat) (l : List ByteArray) (w : World) (h : StrsR w w.heap.size A n l) (hc : n ≤ 4611686018427387903) (he : pagesErr l ≠ 0) :
    Calls Tryz.prog 19 #[.slice A n c] w (ImgOwn w.heap.size noImg (pagesErr l) w) := by
  have K1' := fun W (hb : Below w.heap.size w W) => rpcheck_any A n c l W (h.next hb) hc
  have lz : (pagesErr l != 0) = true := by simpa using he
  generalize pagesErr l = er at *
  have K1 := Lib.hid K1'
  have f1 := below1 w (.cells #[.int .i64 0, .slice none 0 0, .slice none 0 0, .slice none 0 0, .slice none 0 0] 27)
  have z1 := ZB.new w
  obtain ⟨y0, y1, y2, y3, y4⟩ := z1.cells
  obtain ⟨q0, q1, q2, q3, q4⟩ := z1.froz
  have O := outI z1 (X := noImg) (v := noV) (B := w.heap.size) (.inl ⟨rfl, rfl⟩) f1 (Nat.le_refl _) (Nat.le_refl _)
  dsimp only [noImg, noV] at O
  obtain ⟨⟨k0, k1, k2, k3, k4⟩, hF, hB⟩ := O
  have HK := Lib.hid (And.intro k0 (And.intro k1 (And.intro k2 (And.intro k3 (And.intro k4 (And.intro hF hB))))))
  clear K1' h he k0 k1 k2 k3 k4 hF hB
  go_enter Tryz.func19, Tryz.ntmps19
  go_wp2_with fail
  generalize w.alloc (.cells #[.int .i64 0, .slice none 0 0, .slice none 0 0, .slice none 0 0, .slice none 0 0] 27) = W1 at *
  refine (K1.out _ f1).mono ?_
  rintro e w3 ⟨rfl, rfl⟩
  go_wp2_with fail
  obtain ⟨k0, k1, k2, k3, k4, hF, hB⟩ := HK.out
  refine bodyPost_ret (v := .tuple #[imgV noImg noV, .int .i64 er]) ?_ rfl ⟨noV, rfl, hF, hB⟩
  simp [results, Tryz.results19, go_sem, imgV, noImg, noV, k0, k1, k2, k3, k4]
set_option maxRecDepth 100000 in
set_option maxHeartbeats 2000000 in
theorem rup_ok (A : Option Addr) (n c : Nat) (l : List ByteArray) (w : World) (h : StrsR w w.heap.size A n l) (hc : n ≤ 4611686018427387903) (he : pagesErr l = 0) :
    Calls Tryz.prog 19 #[.slice A n c] w (ImgOwn w.heap.size (upI l) 0 w) := by
  have K1' := fun W (hb : Below w.heap.size w W) => rpcheck_any A n c l W (h.next hb) hc
  rw [he] at K1'
  have K1 := Lib.hid K1'
  have hln := h.len
  have l16 := (pagesErr_len he).1
  have KF := Lib.hid (fun W => rfresh_any (n : Nat) W (by omega) (by omega))
  have KW := Lib.hid (fun (k : Nat) (hk : k < n) (pg : ByteArray) (hpg : l.getD k noP = pg) (hz : pg ≠ zeroP) (v : IV) (W : World) (hi : ImgR W W.heap.size v (upTo l k)) => (show Calls Tryz.prog 32 #[imgV (upTo l k) v, .int .i64 (k : Nat), .string pg] W (ImgOwn W.heap.size (upTo l (k + 1)) 0 W) from by
    have := writeOf_any v (upTo l k) (k : Nat) pg W hi
    have e1 : writeE (upTo l k) (k : Nat) pg = 0 := by rw [← hpg]; exact up_step he (by omega)
    have e2 : upTo l (k + 1) = writeI (upTo l k) (k : Nat) pg := by
      show upStep (upTo l k) k (l.getD k noP) = _
      unfold upStep; rw [hpg, if_neg hz]
    rw [e1, ← e2] at this
    exact this))
  have KZ := Lib.hid (fun (k : Nat) (hz : l.getD k noP = zeroP) => (show upTo l (k + 1) = upTo l k from by
    show upStep (upTo l k) k (l.getD k noP) = _
    unfold upStep; rw [if_pos hz]))
  have HG := Lib.hid (fun (k : Nat) (hk : k < n) => (up_at he k (by omega)).guest)
  have HG2 := Lib.hid (up_at he l.length (Nat.le_refl _)).guest
  rw [up_ok he]
  rw [hln] at HG2 HG
  have HU0 : upTo l 0 = freshI (n : Nat) := by rw [← hln]; rfl
  have HU := Lib.hid HU0
  rw [hln]
  have HR := Lib.hid h
  have f1 := below1 w (.cells #[.int .i64 0, .slice none 0 0, .slice none 0 0, .slice none 0 0, .slice none 0 0] 27)
  have z1 := ZB.new w
  have s1 : (w.alloc (.cells #[.int .i64 0, .slice none 0 0, .slice none 0 0, .slice none 0 0, .slice none 0 0] 27)).heap.size = w.heap.size + 1 := World.size_alloc _ _
  clear K1' h he HU0
  go_enter Tryz.func19, Tryz.ntmps19
  go_wp2_with fail
  generalize w.alloc (.cells #[.int .i64 0, .slice none 0 0, .slice none 0 0, .slice none 0 0, .slice none 0 0] 27) = W1 at *
  refine (K1.out _ f1).mono ?_
  rintro e w3 ⟨rfl, rfl⟩
  go_wp2_with fail
  refine (KF.out _).mono ?_
  rintro e w5 ⟨⟨frA, frn, frc, fsA, fsn, fsc, ffA, ffn, ffc, fpA, fpn, fpc⟩, rfl, hF, hb⟩
  have l5 := hb.size
  have zs := z1.nextB hb (by omega)
  have th := below_next f1 hb
  have b1 := below1 w5 (.cells #[.int .i64 (n : Nat), .slice frA frn frc, .slice fsA fsn fsc, .slice ffA ffn ffc, .slice fpA fpn fpc] 27)
  have xb := Box.new w5 (n : Nat) ⟨frA, frn, frc, fsA, fsn, fsc, ffA, ffn, ffc, fpA, fpn, fpc⟩ 27
  have gb : BoxB (w5.alloc (.cells #[.int .i64 (n : Nat), .slice frA frn frc, .slice fsA fsn fsc, .slice ffA ffn ffc, .slice fpA fpn fpc] 27)) w5.heap.size := BoxB.new w5 _
  have hF6 := Fresh.nextM (hF.mono (C := w.heap.size) (by omega)) b1
  have ZH := Lib.hid zs
  have TH := Lib.hid th
  dsimp only [imgV, freshI] at xb b1 hF6 ⊢
  clear zs th hb hF KF z1 f1
  have HF6 : Hid (Fresh (w5.alloc (.cells #[.int .i64 (n : Nat), .slice frA frn frc, .slice fsA fsn fsc, .slice ffA ffn ffc, .slice fpA fpn fpc] 27)) w.heap.size ⟨frA, frn, frc, fsA, fsn, fsc, ffA, ffn, ffc, fpA, fpn, fpc⟩ (upTo l 0)) := Lib.hid (by rw [HU.out]; exact hF6)
  have XH := Lib.hid xb
  obtain ⟨c0, c1, c2, c3, c4⟩ := xb
  dsimp only at c0 c1 c2 c3 c4
  clear hF6
  go_wp2_with fail
  generalize (w5.alloc (.cells #[.int .i64 (n : Nat), .slice frA frn frc, .slice fsA fsn fsc, .slice ffA ffn ffc, .slice fpA fpn fpc] 27)) = W6 at *
  clear c0 c1 c2 c3 c4
  go_loopw [6] (fun i wr => ∃ (k : Nat) (v : IV), k ≤ n ∧ i = .int .i64 k ∧ Box wr w5.heap.size (n : Nat) v ∧ BoxB wr w5.heap.size ∧ Fresh wr w.heap.size v (upTo l k) ∧ Below w5.heap.size w5 wr) (fun i _ => n - (intOf i).toNat)
  case atStart => exact ⟨0, _, Nat.zero_le _, rfl, XH.out, gb, HF6.out, b1⟩
  case round =>
    obtain ⟨k, ⟨mrA, mrn, mrc, msA, msn, msc, mfA, mfn, mfc, mpA, mpn, mpc⟩, hkn, rfl, hx, hB, hf, hbw⟩ := hrel
    have HFk := Lib.hid hf
    have HXk := Lib.hid hx
    have lr := hB.ty.lt
    clear hf
    obtain ⟨c0, c1, c2, c3, c4⟩ := hx
    dsimp only at c0 c1 c2 c3 c4
    by_cases hlt : k < n
    · have TR := below_next TH.out hbw
      obtain ⟨b, o, s, rfl, hbl, hls, hcs, hsz⟩ := ((HR.out.next TR)).at_ hlt
      have hget : l.getD k noP = s := by rw [List.getD_eq_getElem?_getD, hls]; rfl
      have HGE := Lib.hid hget
      have e0 : (0 : Int) ≤ (k : Int) := by omega
      have e1 : (k : Int) < (n : Int) := by omega
      clear hls hget
      cases hzb : (s.toList == zeroP.toList)
      rotate_left
      · have HZ := Lib.hid (KZ.out k (by rw [HGE.out]; exact toList_inj hzb))
        have hd1 : Below wr.heap.size wr wr.drew := (Below.refl wr.heap.size wr).drew
        go_wp2_with fail
        go_region_held3 (fun W' => W'.cell? ⟨b, o + k, none⟩ = some (.string s)) (first | assumption | exact hcs)
          (first | (go_at_call 42; refine (rzero_any _).mono ?_; rintro e w7 ⟨rfl, rfl⟩))
        go_wp2_with fail
        go_roundw
        case rel => exact ⟨k + 1, ⟨mrA, mrn, mrc, msA, msn, msc, mfA, mfn, mfc, mpA, mpn, mpc⟩, by omega, by go_num, HXk.out.keep hd1 lr, hB.next hd1, by rw [HZ.out]; exact Fresh.nextM HFk.out hd1, below_next hbw hd1⟩
        case measure => simp [intOf]; omega
      · have hzz := toList_ne hzb
        have hd2 : Below wr.heap.size wr wr.drew.drew := (Below.refl wr.heap.size wr).drew.drew
        have hi7 := (Fresh.nextM HFk.out hd2).imgR
        have hbl2 : b < wr.heap.size := by have := hbw.size; have := TH.out.size; omega
        have KK := KW.out k hlt s HGE.out hzz _ _ hi7
        dsimp only [imgV] at KK
        rw [HG.out k hlt] at KK
        have KH := Lib.hid KK
        have mvT := Lib.hid (fun (W' : World) (hb : Below wr.drew.drew.heap.size wr.drew.drew W') => (show W'.cell? ⟨w5.heap.size, 0, none⟩ = some (.int .i64 (n : Nat)) ∧ W'.cell? ⟨w5.heap.size, 1, none⟩ = some (.slice mrA mrn mrc) ∧ W'.cell? ⟨w5.heap.size, 2, none⟩ = some (.slice msA msn msc) ∧ W'.cell? ⟨w5.heap.size, 3, none⟩ = some (.slice mfA mfn mfc) ∧ W'.cell? ⟨w5.heap.size, 4, none⟩ = some (.slice mpA mpn mpc) ∧ W'.cell? ⟨b, o + k, none⟩ = some (.string s) from ⟨(hb.cell (p := ⟨w5.heap.size, 0, none⟩) lr).trans c0, (hb.cell (p := ⟨w5.heap.size, 1, none⟩) lr).trans c1, (hb.cell (p := ⟨w5.heap.size, 2, none⟩) lr).trans c2, (hb.cell (p := ⟨w5.heap.size, 3, none⟩) lr).trans c3, (hb.cell (p := ⟨w5.heap.size, 4, none⟩) lr).trans c4, (hb.cell (p := ⟨b, o + k, none⟩) hbl2).trans hcs⟩))
        have HX7 := Lib.hid (HXk.out.keep hd2 lr)
        have hB7 := hB.next hd2
        have hW7 := below_next hbw hd2
        clear KK hi7 c0 c1 c2 c3 c4
        go_wp2_with fail
        go_region_held3 (fun W' => W'.cell? ⟨b, o + k, none⟩ = some (.string s)) (first | assumption | exact hcs)
          (first | (go_at_call 42; refine (rzero_any _).mono ?_; rintro e w7 ⟨rfl, rfl⟩))
        go_wp2_with fail
        refine wp_region_z (S := fun W' => W'.cell? ⟨w5.heap.size, 0, none⟩ = some (.int .i64 (n : Nat)) ∧ W'.cell? ⟨w5.heap.size, 1, none⟩ = some (.slice mrA mrn mrc) ∧ W'.cell? ⟨w5.heap.size, 2, none⟩ = some (.slice msA msn msc) ∧ W'.cell? ⟨w5.heap.size, 3, none⟩ = some (.slice mfA mfn mfc) ∧ W'.cell? ⟨w5.heap.size, 4, none⟩ = some (.slice mpA mpn mpc) ∧ W'.cell? ⟨b, o + k, none⟩ = some (.string s)) 6 (by kernel_rfl) (fun hC => ?_)
        have hSS := mvT.out wr.drew.drew (Below.refl _ _)
        apply wpAnyZ_take (i := 0)
        case hi => rfl
        case hs => kernel_rfl
        case hf => kernel_rfl
        case hr => kernel_rfl
        case hu => kernel_rfl
        case hw => exact fun z h1 h2 => (by have h2 : z < 11 := h2; have h3 : z = 6 ∨ z = 7 ∨ z = 8 ∨ z = 9 ∨ z = 10 := (by omega); rcases h3 with rfl | rfl | rfl | rfl | rfl; exact ⟨[], by kernel_rfl⟩; exact ⟨[6], by kernel_rfl⟩; exact ⟨[6, 7], by kernel_rfl⟩; exact ⟨[6, 7], by kernel_rfl⟩; exact ⟨[6], by kernel_rfl⟩)
        case hQ => exact fun _ _ _ h => h
        case hy => exact Or.inl ⟨by rfl, fun w' hSw => by (obtain ⟨s0, s1, s2, s3, s4, s5⟩ := hSw; go_simp; try with_reducible rfl)⟩
        case hS => assumption
        case hC => assumption
        clear hC
        intro hC
        apply wpAnyZ_take (i := 1)
        case hi => rfl
        case hs => kernel_rfl
        case hf => kernel_rfl
        case hr => kernel_rfl
        case hu => kernel_rfl
        case hw => exact fun z h1 h2 => (by have h2 : z < 11 := h2; have h3 : z = 6 ∨ z = 7 ∨ z = 8 ∨ z = 9 ∨ z = 10 := (by omega); rcases h3 with rfl | rfl | rfl | rfl | rfl; exact ⟨[], by kernel_rfl⟩; exact ⟨[6], by kernel_rfl⟩; exact ⟨[6, 7], by kernel_rfl⟩; exact ⟨[6, 7], by kernel_rfl⟩; exact ⟨[6], by kernel_rfl⟩)
        case hQ => exact fun _ _ _ h => h
        case hy => exact Or.inl ⟨by rfl, fun w' hSw => by (obtain ⟨s0, s1, s2, s3, s4, s5⟩ := hSw; go_simp; try with_reducible rfl)⟩
        case hS => assumption
        case hC => assumption
        clear hC
        intro hC
        apply wpAnyZ_take (i := 2)
        case hi => rfl
        case hs => kernel_rfl
        case hf => kernel_rfl
        case hr => kernel_rfl
        case hu => kernel_rfl
        case hw => exact fun z h1 h2 => (by have h2 : z < 11 := h2; have h3 : z = 6 ∨ z = 7 ∨ z = 8 ∨ z = 9 ∨ z = 10 := (by omega); rcases h3 with rfl | rfl | rfl | rfl | rfl; exact ⟨[4, 5], by kernel_rfl⟩; exact ⟨[4, 5, 6], by kernel_rfl⟩; exact ⟨[4, 5, 6, 7], by kernel_rfl⟩; exact ⟨[4, 5, 6, 7], by kernel_rfl⟩; exact ⟨[4, 5, 6], by kernel_rfl⟩)
        case hQ => exact fun _ _ _ h => h
        case hy => exact Or.inl ⟨by rfl, fun w' hSw => by (obtain ⟨s0, s1, s2, s3, s4, s5⟩ := hSw; go_simp; try with_reducible rfl)⟩
        case hS => assumption
        case hC => assumption
        clear hC
        intro hC
        apply wpAnyZ_take (i := 3)
        case hi => rfl
        case hs => kernel_rfl
        case hf => kernel_rfl
        case hr => kernel_rfl
        case hu => kernel_rfl
        case hw => exact fun z h1 h2 => (by have h2 : z < 11 := h2; have h3 : z = 6 ∨ z = 7 ∨ z = 8 ∨ z = 9 ∨ z = 10 := (by omega); rcases h3 with rfl | rfl | rfl | rfl | rfl; exact ⟨[4, 5], by kernel_rfl⟩; exact ⟨[4, 5, 6], by kernel_rfl⟩; exact ⟨[4, 5, 6, 7], by kernel_rfl⟩; exact ⟨[4, 5, 6, 7], by kernel_rfl⟩; exact ⟨[4, 5, 6], by kernel_rfl⟩)
        case hQ => exact fun _ _ _ h => h
        case hy => exact Or.inl ⟨by rfl, fun w' hSw => by (obtain ⟨s0, s1, s2, s3, s4, s5⟩ := hSw; go_simp; try with_reducible rfl)⟩
        case hS => assumption
        case hC => assumption
        clear hC
        intro hC
        apply wpAnyZ_take (i := 4)
        case hi => rfl
        case hs => kernel_rfl
        case hf => kernel_rfl
        case hr => kernel_rfl
        case hu => kernel_rfl
        case hw => exact fun z h1 h2 => (by have h2 : z < 11 := h2; have h3 : z = 6 ∨ z = 7 ∨ z = 8 ∨ z = 9 ∨ z = 10 := (by omega); rcases h3 with rfl | rfl | rfl | rfl | rfl; exact ⟨[5], by kernel_rfl⟩; exact ⟨[5, 6], by kernel_rfl⟩; exact ⟨[5, 6, 7], by kernel_rfl⟩; exact ⟨[5, 6, 7], by kernel_rfl⟩; exact ⟨[5, 6], by kernel_rfl⟩)
        case hQ => exact fun _ _ _ h => h
        case hy => exact Or.inl ⟨by rfl, fun w' hSw => by (obtain ⟨s0, s1, s2, s3, s4, s5⟩ := hSw; go_simp; try with_reducible rfl)⟩
        case hS => assumption
        case hC => assumption
        clear hC
        intro hC
        apply wpAnyZ_take (i := 5)
        case hi => rfl
        case hs => kernel_rfl
        case hf => kernel_rfl
        case hr => kernel_rfl
        case hu => kernel_rfl
        case hw => exact fun z h1 h2 => (by have h2 : z < 11 := h2; have h3 : z = 6 ∨ z = 7 ∨ z = 8 ∨ z = 9 ∨ z = 10 := (by omega); rcases h3 with rfl | rfl | rfl | rfl | rfl; exact ⟨[], by kernel_rfl⟩; exact ⟨[6], by kernel_rfl⟩; exact ⟨[6, 7], by kernel_rfl⟩; exact ⟨[6, 7], by kernel_rfl⟩; exact ⟨[6], by kernel_rfl⟩)
        case hQ => exact fun _ _ _ h => h
        case hy => exact Or.inl ⟨by rfl, fun w' hSw => by (obtain ⟨s0, s1, s2, s3, s4, s5⟩ := hSw; go_simp; try with_reducible rfl)⟩
        case hS => assumption
        case hC => assumption
        clear hC
        intro hC
        clear hSS hC
        refine wpAnyZ_one (i := 6) (by kernel_rfl) rfl (fun K' hK => ?_)
        go_simp
        refine KH.out.mono ?_
        rintro e w8 ⟨⟨nrA, nrn, nrc, nsA, nsn, nsc, nfA, nfn, nfc, npA, npn, npc⟩, rfl, hF8, hb8⟩
        refine hK.out _ _ (fun h => absurd h (by decide)) ?_
        clear hK
        have HBB := Lib.hid hb8
        have hd : wr.drew.drew.heap.size = wr.heap.size := rfl
        have l8 := hb8.size
        have HX8 := HX7.out.keep hb8 hB7.ty.lt
        have hB8 := hB7.next hb8
        have h5 := five hB8 ⟨_, _, HX8⟩ (n : Nat) ⟨nrA, nrn, nrc, nsA, nsn, nsc, nfA, nfn, nfc, npA, npn, npc⟩
        have hF9 := (hF8.mono (C := w.heap.size) (by have := hW7.size; have := TH.out.size; omega)).kept h5.2.2 hB8.ty (by decide) (by decide) (by decide)
        have hW9 := (below_next hW7 hb8).grown h5.2.2 (by omega) (fun j e => by injection e with e; omega)
        dsimp only [imgV] at h5 hF9 hW9 ⊢
        have G := HG2.out
        obtain ⟨c0, c1, c2, c3, c4⟩ := HX8
        dsimp only at c0 c1 c2 c3 c4
        have g0 := hB8.fz 0
        have g1 := hB8.fz 1
        have g2 := hB8.fz 2
        have g3 := hB8.fz 3
        have g4 := hB8.fz 4
        have HH := Lib.hid (And.intro h5.1 (And.intro h5.2.1 (And.intro hF9 hW9)))
        clear h5 hF9 hW9 hF8 hb8 HX7 KH hB7 hW7
        have hgk : (upTo l (k + 1)).guest = (n : Nat) := by
          by_cases hl : k + 1 < n
          · exact HG.out _ hl
          · have : k + 1 = n := by omega
            rw [this]; exact G
        rw [hgk]
        refine wpAnyZ_one (i := 7) (by kernel_rfl) rfl (fun K' hK => ?_)
        go_simp
        refine hK.out _ _ (fun h => absurd h (by decide)) ?_
        clear hK
        refine wpAnyZ_two (i := 8) (j := 9) (by kernel_rfl) rfl rfl (fun K' hK => ?_) (fun K' hK => ?_)
        · go_simp
          refine hK.out _ _ (fun h => absurd h (by decide)) ?_
          clear hK
          refine wpAnyZ_two (i := 9) (j := 10) (by kernel_rfl) rfl rfl (fun K' hK => ?_) (fun K' hK => ?_)
          · go_simp
            refine hK.out _ _ (fun h => absurd h (by decide)) ?_
            clear hK
            refine wpAnyZ_one (i := 10) (by kernel_rfl) rfl (fun K' hK => ?_)
            go_simp
            refine hK.out _ _ (fun h => absurd h (by decide)) ?_
            clear hK
            refine wpAnyZ_done (by kernel_rfl) ?_ _
            go_wp2_with fail
            go_roundw
            case rel => exact ⟨k + 1, _, by omega, by go_num, HH.out.1, HH.out.2.1, HH.out.2.2.1, HH.out.2.2.2⟩
            case measure => simp [intOf]; omega
          · go_simp
            refine hK.out _ _ (fun h => absurd h (by decide)) ?_
            clear hK
            refine wpAnyZ_one (i := 9) (by kernel_rfl) rfl (fun K' hK => ?_)
            go_simp
            refine hK.out _ _ (fun h => absurd h (by decide)) ?_
            clear hK
            refine wpAnyZ_done (by kernel_rfl) ?_ _
            go_wp2_with fail
            go_roundw
            case rel => exact ⟨k + 1, _, by omega, by go_num, HH.out.1, HH.out.2.1, HH.out.2.2.1, HH.out.2.2.2⟩
            case measure => simp [intOf]; omega
        · go_simp
          refine hK.out _ _ (fun h => absurd h (by decide)) ?_
          clear hK
          refine wpAnyZ_one (i := 8) (by kernel_rfl) rfl (fun K' hK => ?_)
          go_simp
          refine hK.out _ _ (fun h => absurd h (by decide)) ?_
          clear hK
          refine wpAnyZ_one (i := 10) (by kernel_rfl) rfl (fun K' hK => ?_)
          go_simp
          refine hK.out _ _ (fun h => absurd h (by decide)) ?_
          clear hK
          refine wpAnyZ_done (by kernel_rfl) ?_ _
          go_wp2_with fail
          go_roundw
          case rel => exact ⟨k + 1, _, by omega, by go_num, HH.out.1, HH.out.2.1, HH.out.2.2.1, HH.out.2.2.2⟩
          case measure => simp [intOf]; omega
    · obtain rfl : k = n := by omega
      have zs := ZH.out.nextB hbw (by have := ZH.out.box.1.ty.lt; omega)
      have O := outI zs HFk.out (below_next TH.out hbw) (Nat.le_refl _) (Nat.le_refl _)
      rw [HG2.out] at O
      dsimp only at O
      obtain ⟨⟨k0, k1, k2, k3, k4⟩, hF, hB'⟩ := O
      obtain ⟨u0, u1, u2, u3, u4⟩ := zs.cells
      obtain ⟨q0, q1, q2, q3, q4⟩ := zs.froz
      have HK := Lib.hid (And.intro k0 (And.intro k1 (And.intro k2 (And.intro k3 (And.intro k4 (And.intro hF hB'))))))
      clear k0 k1 k2 k3 k4 hF hB' zs
      have G := HG2.out
      go_wp2_with fail
      obtain ⟨k0, k1, k2, k3, k4, hF, hB'⟩ := HK.out
      refine bodyPost_ret (v := .tuple #[imgV (upTo l k) ⟨mrA, mrn, mrc, msA, msn, msc, mfA, mfn, mfc, mpA, mpn, mpc⟩, .int .i64 0]) ?_ rfl ⟨_, rfl, hF, hB'⟩
      simp [results, Tryz.results19, go_sem, imgV, G, k0, k1, k2, k3, k4]
theorem rup_any (A : Option Addr) (n c : Nat) (l : List ByteArray) (w : World) (h : StrsR w w.heap.size A n l) (hc : n ≤ 4611686018427387903) :
    Calls Tryz.prog 19 #[.slice A n c] w (ImgOwn w.heap.size (upI l) (pagesErr l) w) := by
  by_cases he : pagesErr l = 0
  · rw [he]; exact rup_ok A n c l w h hc he
  · rw [up_no he]; exact rup_no A n c l w h hc he
end Go.Proofs.YtmdjoafbckphfaaGreat
-- MovTells: The law MoveTells. Conditions: what is handed in is read below the heap's size. (Printed by gen_movtells.py.)
namespace Go.Proofs.YtmdjoafbckphfaaGreat
open Go.RowKit Sl
theorem downV_len (m : Img) : (downV m).length ≤ 16 := by
  unfold downV
  split
  · rename_i h
    have h2 : checkErr m = 0 := by
      unfold downE at h
      split at h
      · assumption
      · rename_i h3; exact absurd h h3
    exact (pagesErr_len (allM_facts h2).1).1
  · exact Nat.zero_le _
theorem own_strsW {w : World} {base n c : Nat} {A : Option Addr} {l : List ByteArray} (h : w.ownsRow base 9 1 (.slice A n c) n (l.map Value.string)) (hl : l.length ≤ 16) : n ≤ 4611686018427387903 ∧ Rd w w.heap.size 1 A n (l.map Value.string) := ⟨by have := h.1; simp at this; omega, Rd.of_own h⟩
set_option maxRecDepth 100000 in
set_option maxHeartbeats 8000000 in
theorem law_moveTells (A : Option Addr) (n c : Nat) (l : List ByteArray) (v : IV) (m : Img) (w : World) (hl : StrsR w w.heap.size A n l) (hc : n ≤ 4611686018427387903) (h : ImgR w w.heap.size v m) :
    Calls Tryz.prog 5 #[.slice A n c, .agg #[.int .i64 m.guest, .slice v.rA v.rn v.rc, .slice v.sA v.sn v.sc, .slice v.fA v.fn v.fc, .slice v.pA v.pn v.pc]] w fun e w' => e = .returned (.bool true) ∧ Below w.heap.size w w' := by
  have Ku' := fun W (hb : Below w.heap.size w W) => mup_any A n c l W (hl.next hb) hc
  have KU' := fun W (hb : Below w.heap.size w W) => rup_any A n c l W (hl.next hb) hc
  have Kd' := fun W (hb : Below w.heap.size w W) => down_any v m W (h.next hb)
  have KD' := fun W (hb : Below w.heap.size w W) => rdown_any v m W (h.next hb)
  have E1 := downV_len m
  generalize downE m = de at *
  generalize downV m = dv at *
  generalize upI l = zu at *
  generalize pagesErr l = eu at *
  obtain ⟨rA, rn, rc, sA, sn, sc, fA, fn, fc, pA, pn, pc⟩ := v
  dsimp only [imgV] at Ku' KU' Kd' KD' ⊢
  have Ku := Lib.hid Ku'
  have KU := Lib.hid KU'
  have Kd := Lib.hid Kd'
  have KD := Lib.hid KD'
  clear Ku' KU' Kd' KD' h hl
  have T0' := below1 w (.cells #[.int .i64 m.guest, .slice rA rn rc, .slice sA sn sc, .slice fA fn fc, .slice pA pn pc] 27)
  have X0' := Box.new w m.guest ⟨rA, rn, rc, sA, sn, sc, fA, fn, fc, pA, pn, pc⟩ 27
  have L0' : w.heap.size < (w.alloc (.cells #[.int .i64 m.guest, .slice rA rn rc, .slice sA sn sc, .slice fA fn fc, .slice pA pn pc] 27)).heap.size := by simp
  have T := Lib.hid T0'
  have XM := Lib.hid X0'
  have LM := Lib.hid L0'
  clear T0' X0' L0'
  obtain ⟨c1_0, c1_1, c1_2, c1_3, c1_4⟩ := XM.out
  try dsimp only at c1_0 c1_1 c1_2 c1_3 c1_4
  go_enter Tryz.func5, Tryz.ntmps5
  try dsimp only [List.append]
  clear c1_0 c1_1 c1_2 c1_3 c1_4
  obtain ⟨c2_0, c2_1, c2_2, c2_3, c2_4⟩ := XM.out
  try dsimp only at c2_0 c2_1 c2_2 c2_3 c2_4
  go_wp2_with fail
  generalize (w.alloc (.cells #[.int .i64 m.guest, .slice rA rn rc, .slice sA sn sc, .slice fA fn fc, .slice pA pn pc] 27)) = W3 at *
  refine (Ku.out _ T.out).mono ?_
  rintro e w4 ⟨v, rfl, hF, hb⟩
  clear c2_0 c2_1 c2_2 c2_3 c2_4
  have T' := Lib.hid (below_next T.out hb)
  have XM' := Lib.hid (XM.out.keep hb LM.out)
  have LM' := Lib.hid (Nat.lt_of_lt_of_le LM.out hb.size)
  clear T XM LM hb
  have T := T'
  have XM := XM'
  have LM := LM'
  clear T' XM' LM'
  have hx := Box.new w4 zu.guest v 27
  have b1 := below1 w4 (.cells #[.int .i64 zu.guest, .slice v.rA v.rn v.rc, .slice v.sA v.sn v.sc, .slice v.fA v.fn v.fc, .slice v.pA v.pn v.pc] 27)
  have hi2 := hF.imgR.next b1
  have hlt : w4.heap.size < (w4.alloc (.cells #[.int .i64 zu.guest, .slice v.rA v.rn v.rc, .slice v.sA v.sn v.sc, .slice v.fA v.fn v.fc, .slice v.pA v.pn v.pc] 27)).heap.size := by simp
  have T' := Lib.hid (below_next T.out b1)
  have XM' := Lib.hid (XM.out.keep b1 LM.out)
  have LM' := Lib.hid (Nat.lt_of_lt_of_le LM.out b1.size)
  clear T XM LM b1
  have T := T'
  have XM := XM'
  have LM := LM'
  clear T' XM' LM'
  obtain ⟨arA, arn, arc, asA, asn, asc, afA, afn, afc, apA, apn, apc⟩ := v
  have Ia := Lib.hid hi2
  have Xa := Lib.hid hx
  have La := Lib.hid hlt
  dsimp only [imgV] at Ia Xa La T XM LM ⊢
  clear hF hx hi2 hlt
  obtain ⟨c5_0, c5_1, c5_2, c5_3, c5_4⟩ := XM.out
  try dsimp only at c5_0 c5_1 c5_2 c5_3 c5_4
  go_wp2_with fail
  generalize (w4.alloc (.cells #[.int .i64 zu.guest, .slice arA arn arc, .slice asA asn asc, .slice afA afn afc, .slice apA apn apc] 27)) = W6 at *
  refine (Kd.out _ T.out).mono ?_
  rintro e w7 ⟨Ad, nd, cd, rfl, ho, hb, hnc, hcm⟩
  clear c5_0 c5_1 c5_2 c5_3 c5_4
  have T' := Lib.hid (below_next T.out hb)
  have XM' := Lib.hid (XM.out.keep hb LM.out)
  have LM' := Lib.hid (Nat.lt_of_lt_of_le LM.out hb.size)
  have Xa' := Lib.hid (Xa.out.keep hb La.out)
  have La' := Lib.hid (Nat.lt_of_lt_of_le La.out hb.size)
  have Ia' := Lib.hid (Ia.out.next hb)
  clear T XM LM Xa La Ia hb
  have T := T'
  have XM := XM'
  have LM := LM'
  have Xa := Xa'
  have La := La'
  have Ia := Ia'
  clear T' XM' LM' Xa' La' Ia'
  have hr := own_strsW ho E1
  clear ho hnc hcm
  have Rd := Lib.hid hr.2
  have hnd := hr.1
  clear hr
  obtain ⟨c8_0, c8_1, c8_2, c8_3, c8_4⟩ := XM.out
  try dsimp only at c8_0 c8_1 c8_2 c8_3 c8_4
  go_wp2_with fail
  refine (KU.out _ T.out).mono ?_
  rintro e w9 ⟨v, rfl, hF, hb⟩
  clear c8_0 c8_1 c8_2 c8_3 c8_4
  have T' := Lib.hid (below_next T.out hb)
  have XM' := Lib.hid (XM.out.keep hb LM.out)
  have LM' := Lib.hid (Nat.lt_of_lt_of_le LM.out hb.size)
  have Xa' := Lib.hid (Xa.out.keep hb La.out)
  have La' := Lib.hid (Nat.lt_of_lt_of_le La.out hb.size)
  have Ia' := Lib.hid (Ia.out.next hb)
  have Rd' := Lib.hid (Rd.out.next hb)
  clear T XM LM Xa La Ia Rd hb
  have T := T'
  have XM := XM'
  have LM := LM'
  have Xa := Xa'
  have La := La'
  have Ia := Ia'
  have Rd := Rd'
  clear T' XM' LM' Xa' La' Ia' Rd'
  have hx := Box.new w9 zu.guest v 27
  have b1 := below1 w9 (.cells #[.int .i64 zu.guest, .slice v.rA v.rn v.rc, .slice v.sA v.sn v.sc, .slice v.fA v.fn v.fc, .slice v.pA v.pn v.pc] 27)
  have hi2 := hF.imgR.next b1
  have hlt : w9.heap.size < (w9.alloc (.cells #[.int .i64 zu.guest, .slice v.rA v.rn v.rc, .slice v.sA v.sn v.sc, .slice v.fA v.fn v.fc, .slice v.pA v.pn v.pc] 27)).heap.size := by simp
  have T' := Lib.hid (below_next T.out b1)
  have XM' := Lib.hid (XM.out.keep b1 LM.out)
  have LM' := Lib.hid (Nat.lt_of_lt_of_le LM.out b1.size)
  have Xa' := Lib.hid (Xa.out.keep b1 La.out)
  have La' := Lib.hid (Nat.lt_of_lt_of_le La.out b1.size)
  have Ia' := Lib.hid (Ia.out.next b1)
  have Rd' := Lib.hid (Rd.out.next b1)
  clear T XM LM Xa La Ia Rd b1
  have T := T'
  have XM := XM'
  have LM := LM'
  have Xa := Xa'
  have La := La'
  have Ia := Ia'
  have Rd := Rd'
  clear T' XM' LM' Xa' La' Ia' Rd'
  obtain ⟨brA, brn, brc, bsA, bsn, bsc, bfA, bfn, bfc, bpA, bpn, bpc⟩ := v
  have Ib := Lib.hid hi2
  have Xb := Lib.hid hx
  have Lb := Lib.hid hlt
  dsimp only [imgV] at Ib Xb Lb T XM LM Xa La Ia Rd ⊢
  clear hF hx hi2 hlt
  obtain ⟨c10_0, c10_1, c10_2, c10_3, c10_4⟩ := XM.out
  try dsimp only at c10_0 c10_1 c10_2 c10_3 c10_4
  go_wp2_with fail
  generalize (w9.alloc (.cells #[.int .i64 zu.guest, .slice brA brn brc, .slice bsA bsn bsc, .slice bfA bfn bfc, .slice bpA bpn bpc] 27)) = W11 at *
  refine (KD.out _ T.out).mono ?_
  rintro e w12 ⟨Af, nf, cf, rfl, ho, hb, hnc, hcm⟩
  clear c10_0 c10_1 c10_2 c10_3 c10_4
  have T' := Lib.hid (below_next T.out hb)
  have XM' := Lib.hid (XM.out.keep hb LM.out)
  have LM' := Lib.hid (Nat.lt_of_lt_of_le LM.out hb.size)
  have Xa' := Lib.hid (Xa.out.keep hb La.out)
  have La' := Lib.hid (Nat.lt_of_lt_of_le La.out hb.size)
  have Ia' := Lib.hid (Ia.out.next hb)
  have Rd' := Lib.hid (Rd.out.next hb)
  have Xb' := Lib.hid (Xb.out.keep hb Lb.out)
  have Lb' := Lib.hid (Nat.lt_of_lt_of_le Lb.out hb.size)
  have Ib' := Lib.hid (Ib.out.next hb)
  clear T XM LM Xa La Ia Rd Xb Lb Ib hb
  have T := T'
  have XM := XM'
  have LM := LM'
  have Xa := Xa'
  have La := La'
  have Ia := Ia'
  have Rd := Rd'
  have Xb := Xb'
  have Lb := Lb'
  have Ib := Ib'
  clear T' XM' LM' Xa' La' Ia' Rd' Xb' Lb' Ib'
  have hr := own_strsW ho E1
  clear ho hnc hcm
  have Rf := Lib.hid hr.2
  have hnf := hr.1
  clear hr
  go_wp2_with fail
  refine (moveBegun_any _).mono ?_
  rintro e w13 ⟨rfl, hb⟩
  have T' := Lib.hid (below_next T.out hb)
  have XM' := Lib.hid (XM.out.keep hb LM.out)
  have LM' := Lib.hid (Nat.lt_of_lt_of_le LM.out hb.size)
  have Xa' := Lib.hid (Xa.out.keep hb La.out)
  have La' := Lib.hid (Nat.lt_of_lt_of_le La.out hb.size)
  have Ia' := Lib.hid (Ia.out.next hb)
  have Rd' := Lib.hid (Rd.out.next hb)
  have Xb' := Lib.hid (Xb.out.keep hb Lb.out)
  have Lb' := Lib.hid (Nat.lt_of_lt_of_le Lb.out hb.size)
  have Ib' := Lib.hid (Ib.out.next hb)
  have Rf' := Lib.hid (Rf.out.next hb)
  clear T XM LM Xa La Ia Rd Xb Lb Ib Rf hb
  have T := T'
  have XM := XM'
  have LM := LM'
  have Xa := Xa'
  have La := La'
  have Ia := Ia'
  have Rd := Rd'
  have Xb := Xb'
  have Lb := Lb'
  have Ib := Ib'
  have Rf := Rf'
  clear T' XM' LM' Xa' La' Ia' Rd' Xb' Lb' Ib' Rf'
  obtain ⟨c14_0, c14_1, c14_2, c14_3, c14_4⟩ := Xa.out
  try dsimp only at c14_0 c14_1 c14_2 c14_3 c14_4
  obtain ⟨c15_0, c15_1, c15_2, c15_3, c15_4⟩ := Xb.out
  try dsimp only at c15_0 c15_1 c15_2 c15_3 c15_4
  go_wp2_with fail
  refine (sameImg_any _ _ zu _ Ia.out Ib.out).mono ?_
  rintro e w16 ⟨rfl, hb⟩
  clear c14_0 c14_1 c14_2 c14_3 c14_4 c15_0 c15_1 c15_2 c15_3 c15_4
  have T' := Lib.hid (below_next T.out hb)
  have XM' := Lib.hid (XM.out.keep hb LM.out)
  have LM' := Lib.hid (Nat.lt_of_lt_of_le LM.out hb.size)
  have Xa' := Lib.hid (Xa.out.keep hb La.out)
  have La' := Lib.hid (Nat.lt_of_lt_of_le La.out hb.size)
  have Ia' := Lib.hid (Ia.out.next hb)
  have Rd' := Lib.hid (Rd.out.next hb)
  have Xb' := Lib.hid (Xb.out.keep hb Lb.out)
  have Lb' := Lib.hid (Nat.lt_of_lt_of_le Lb.out hb.size)
  have Ib' := Lib.hid (Ib.out.next hb)
  have Rf' := Lib.hid (Rf.out.next hb)
  clear T XM LM Xa La Ia Rd Xb Lb Ib Rf hb
  have T := T'
  have XM := XM'
  have LM := LM'
  have Xa := Xa'
  have La := La'
  have Ia := Ia'
  have Rd := Rd'
  have Xb := Xb'
  have Lb := Lb'
  have Ib := Ib'
  have Rf := Rf'
  clear T' XM' LM' Xa' La' Ia' Rd' Xb' Lb' Ib' Rf'
  go_wp2_with fail
  refine (samePages_any Ad Af _ _ cd cf _ _ _ Rd.out Rf.out hnd hnf).mono ?_
  rintro e w17 ⟨rfl, hb⟩
  have T' := Lib.hid (below_next T.out hb)
  have XM' := Lib.hid (XM.out.keep hb LM.out)
  have LM' := Lib.hid (Nat.lt_of_lt_of_le LM.out hb.size)
  have Xa' := Lib.hid (Xa.out.keep hb La.out)
  have La' := Lib.hid (Nat.lt_of_lt_of_le La.out hb.size)
  have Ia' := Lib.hid (Ia.out.next hb)
  have Rd' := Lib.hid (Rd.out.next hb)
  have Xb' := Lib.hid (Xb.out.keep hb Lb.out)
  have Lb' := Lib.hid (Nat.lt_of_lt_of_le Lb.out hb.size)
  have Ib' := Lib.hid (Ib.out.next hb)
  have Rf' := Lib.hid (Rf.out.next hb)
  clear T XM LM Xa La Ia Rd Xb Lb Ib Rf hb
  have T := T'
  have XM := XM'
  have LM := LM'
  have Xa := Xa'
  have La := La'
  have Ia := Ia'
  have Rd := Rd'
  have Xb := Xb'
  have Lb := Lb'
  have Ib := Ib'
  have Rf := Rf'
  clear T' XM' LM' Xa' La' Ia' Rd' Xb' Lb' Ib' Rf'
  simp only [decide_true]
  go_wp2_with fail
  go_ret
  exact ⟨rfl, T.out⟩
end Go.Proofs.YtmdjoafbckphfaaGreat
-- MoveTellsProof: MoveTells: for every input the law answers true, and each argument reads behind the call as it read before. No conditions.
namespace Go.Proofs.YtmdjoafbckphfaaGreat
open Go.ChangeShapes Go.WideShapes Go.ChangeAt Go.RowKit Sl

set_option maxRecDepth 100000 in
theorem moveTells_lifted (os : Os) (started : os.Started) (H : Type) (enc : TypeId × Value → H) :
    ReturnsInHanded {} Tryz.checked os 5 .any (Rows.moveTellsSpec.pre6 enc Tryz.prog Tryz.f5 Rows.moveTellsRow.domain false) (Rows.moveTellsSpec.post enc Tryz.prog Tryz.f5 false true false false) := by
  refine returnsInHanded_of_change_sized (C := Tryz.checked) Tryz.own started (by kernel_rfl) Tryz.func5
    (ChangeSpec.witness6 (enc := enc) (C := Tryz.checked) false ⟨#[], #[.slice none 0 0, .agg #[.int .i64 0, .slice none 0 0, .slice none 0 0, .slice none 0 0, .slice none 0 0]], []⟩ 8 (by kernel_rfl) (by kernel_rfl) (by kernel_rfl) (by kernel_rfl)) ?_
  intro W base args ds gs before hval0 hW hcnd hsz0 _
  have hsz : (DataW.weightsEach Tryz.prog (Tryz.f5.params.toList ++ Rows.moveTellsSpec.plain.varTypes Tryz.prog) (ds ++ gs)).all (· ≤ reachBytes) = true := hsz0
  have hW' := hW
  obtain ⟨p, q, hA0, hV, rfl, hfz, hnd⟩ := hW
  have hA : DataW.TrodAll enc Tryz.prog W 0 (fun _ => true) true Tryz.f5.params.toList args.toList ds p := hA0
  have hval : ∀ (j : Nat) t v, Tryz.f5.params[j]? = some t → args[j]? = some v → Value.okWide Tryz.prog W .any base t v := hval0
  rw [Tryz.params5] at hA hsz hval
  obtain ⟨rfl, rfl⟩ := trodVars_none hV
  obtain ⟨v0, vs0, d0, ds0, p0, q0, hargs, rfl, rfl, h0, r0⟩ := trodAll_cons hA
  obtain ⟨v1, vs1, d1, ds1, p1, q1, rfl, rfl, rfl, h1, r1⟩ := trodAll_cons r0
  obtain ⟨rfl, rfl, rfl⟩ := trodAll_nil r1
  have hargs := args_of hargs
  subst hargs
  obtain ⟨A0, n0, c0, l0, rfl, hn0, hc0, hr0⟩ := op_strs (hval 0 22 v0 rfl rfl) h0 (fun n hn => weight_at hsz (j := 0) rfl rfl n hn)
  obtain ⟨u1, m1, rfl, hr1⟩ := op_image (hval 1 27 v1 rfl rfl) h1 (fun n hn => weight_at hsz (j := 1) rfl rfl n hn)
  clear hval hval0 hsz hsz0 hA0
  refine (law_moveTells A0 n0 c0 l0 u1 m1 W hr0 (by omega) hr1).mono fun e W' ⟨he, hb⟩ => ?_
  subst he
  exact ⟨_, rfl, law_post rfl rfl (by rw [Tryz.params5]; exact of_decide_eq_true (by kernel_rfl)) hW' rfl hb⟩

theorem moveTells_holds : Rows.MoveTellsSaid :=
  OpenClaim.holds_of_wide 5 Tryz.f5 rfl rfl rfl rfl rfl rfl rfl ⟨rfl, rfl, rfl, rfl, rfl⟩ rfl rfl rfl rfl rfl (by kernel_rfl) Tryz.func5 (by kernel_rfl)
    (of_decide_eq_true (by kernel_rfl)) (by unfold Func.isWrapper; rw [if_neg (of_decide_eq_false (by kernel_rfl))]; exact ⟨rfl, rfl⟩)
    (fun os started H enc _ => moveTells_lifted os started H enc)
#print axioms moveTells_holds
end Go.Proofs.YtmdjoafbckphfaaGreat
