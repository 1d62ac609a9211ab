/- Texts of the proof of restImages_holds: SnCre. Conditions: as each text says. -/
import Derived.Test.YtfilnnjanhjbeaaGreatRI34
import Derived.Test.YtfilnnjanhjbeaaGreatRI16
import Derived.Test.YtfilnnjanhjbeaaGreatRI21
import Derived.Test.YtfilnnjanhjbeaaGreatRI22
import Derived.Test.YtfilnnjanhjbeaaGreatRI33
namespace Go.Proofs.YtfilnnjanhjbeaaGreat
open Go.RowKit Sl
set_option maxRecDepth 100000 in
set_option maxHeartbeats 2000000 in
theorem create_ok (v : IV) (m : Img) (name : ByteArray) (w : World) (h : ImgR w w.heap.size v m) (he : createE m name = 0) (hsz : name.size ≤ 4611686018427387903) :
    Calls Tryz.prog 8 #[imgV m v, .string name] w (ImgOwn w.heap.size (settled (createX m name)) 0 w) := by
  have SX := create_sound he
  obtain ⟨he, hn, ha, h3⟩ := create_is he
  have SS := sound_of (check_is he).1
  obtain ⟨s1, s2, s3, s4, s5, S6⟩ := snaps_facts SS
  have hkl : insK m.snaps name ≤ m.snaps.length := insK_le _ _
  have hrn : v.rn ≤ 1000000 := by have := h.rlen; have := SS.cbd.root; omega
  have hp3 : ¬ v.pn = 3 := by have := h.plen; omega
  have hpv := h.plen
  have KC' := fun W (hb : Below w.heap.size w W) => tcheck_any v m W (h.next hb)
  have KF' := fun W (hb : Below w.heap.size w W) => find_any2 v m name W (h.next hb) S6 (by have := h.plen; omega)
  have KN' := fun W (_ : Below w.heap.size w W) => name_any name W hsz
  have KO' := fun W (hb : Below w.heap.size w W) => own_any v m W (h.next hb) SS.cbd (by rw [(sh_is (check_is he).1).1.refs]; exact SS.cbd.slots)
  have KT' := fun W (hb : Below w.heap.size w W) => cloneInts v.rA v.rn v.rc (ints m.root) W (h.next hb).root (one_ints _) hrn
  obtain ⟨f1, f2, f4, f5⟩ := boxes2 w m.guest v
  rw [he] at KC'
  rw [hn] at KN'
  rw [ha] at KF'
  obtain ⟨rA, rn, rc, sA, sn, sc, fA, fn, fc, pA, pn, pc⟩ := v
  dsimp only [imgV] at KC' KF' KN' KO' KT' f1 f2 f4 f5 ⊢
  have KC := Lib.hid KC'
  have KF := Lib.hid KF'
  have KN := Lib.hid KN'
  have KO := Lib.hid KO'
  have KT := Lib.hid KT'
  clear KC' KF' KN' KO' KT'
  have HX := Lib.hid f2
  obtain ⟨x0, x1, x2, x3, x4⟩ := f2
  dsimp only at x0 x1 x2 x3 x4
  have HCX := Lib.hid (show createX m name = { m with snaps := m.snaps.take (insK m.snaps name) ++ ⟨name, m.guest, m.root⟩ :: m.snaps.drop (insK m.snaps name) } from rfl)
  have HSX := Lib.hid SX
  dsimp only at hp3 hpv hrn
  have hq3 : ((pn : Int) == 3) = false := by simp; omega
  clear hp3
  generalize hkk : insK m.snaps name = kk at *
  clear h he hn ha SS s1 s2 s3 s4 s5 S6 hkk SX
  go_enter Tryz.func8, Tryz.ntmps8
  go_wp2_with fail
  generalize (w.alloc (.cells #[.int .i64 m.guest, .slice rA rn rc, .slice sA sn sc, .slice fA fn fc, .slice pA pn pc] 26)).alloc (.cells #[.int .i64 0, .slice none 0 0, .slice none 0 0, .slice none 0 0, .slice none 0 0] 26) = W0 at *
  have HL : Hid (w.heap.size < W0.heap.size) := Lib.hid (by omega)
  have HZ := Lib.hid f4
  have HB := Lib.hid f1
  have h2 : W0.heap.size = w.heap.size + 1 + 1 := f5
  clear f1 f4 f5
  refine (KC.out _ HB.out).mono ?_
  rintro e W1 ⟨rfl, hb⟩
  have HX' := Lib.hid (HX.out.keep hb HL.out)
  have HZ' := Lib.hid (HZ.out.next hb)
  have HB' := Lib.hid (below_next HB.out hb)
  have HL' := Lib.hid (Nat.lt_of_lt_of_le HL.out hb.size)
  clear HX HZ HB HL x0 x1 x2 x3 x4 hb KC
  have HX := HX'
  have HZ := HZ'
  have HB := HB'
  have HL := HL'
  clear HX' HZ' HB' HL'
  obtain ⟨x0, x1, x2, x3, x4⟩ := HX.out
  dsimp only at x0 x1 x2 x3 x4
  go_wp2_with fail
  refine (KF.out _ HB.out).mono ?_
  rintro e W2 ⟨rfl, hb⟩
  have HX' := Lib.hid (HX.out.keep hb HL.out)
  have HZ' := Lib.hid (HZ.out.next hb)
  have HB' := Lib.hid (below_next HB.out hb)
  have HL' := Lib.hid (Nat.lt_of_lt_of_le HL.out hb.size)
  clear HX HZ HB HL x0 x1 x2 x3 x4 hb KF
  have HX := HX'
  have HZ := HZ'
  have HB := HB'
  have HL := HL'
  clear HX' HZ' HB' HL'
  obtain ⟨x0, x1, x2, x3, x4⟩ := HX.out
  dsimp only at x0 x1 x2 x3 x4
  go_wp2_with fail
  refine (KN.out _ HB.out).mono ?_
  rintro e W3 ⟨rfl, hb⟩
  have HX' := Lib.hid (HX.out.keep hb HL.out)
  have HZ' := Lib.hid (HZ.out.next hb)
  have HB' := Lib.hid (below_next HB.out hb)
  have HL' := Lib.hid (Nat.lt_of_lt_of_le HL.out hb.size)
  clear HX HZ HB HL x0 x1 x2 x3 x4 hb KN
  have HX := HX'
  have HZ := HZ'
  have HB := HB'
  have HL := HL'
  clear HX' HZ' HB' HL'
  obtain ⟨x0, x1, x2, x3, x4⟩ := HX.out
  dsimp only at x0 x1 x2 x3 x4
  go_wp2_with fail
  refine (KO.out _ HB.out).mono ?_
  rintro e W4 ⟨v2, tg, q, p, rfl, ho2, hb2⟩
  have HX' := Lib.hid (HX.out.keep hb2 HL.out)
  have HZ' := Lib.hid (HZ.out.next hb2)
  have HB' := Lib.hid (below_next HB.out hb2)
  have HLB : Hid (w.heap.size ≤ W3.heap.size) := Lib.hid HB.out.size
  have HL2 : Hid (w.heap.size + 1 < W3.heap.size) := Lib.hid (Array.getElem?_eq_some_iff.1 HZ.out.heap).1
  have hbs := hb2.size
  generalize W3.heap.size = base at *
  clear HX HZ HB HL x0 x1 x2 x3 x4 hb2 KO
  have HX := HX'
  have HZ := HZ'
  have HB := HB'
  clear HX' HZ' HB'
  have hpl := ho2.plen
  have hpm : p.length = m.snaps.length := by have h0 := congrArg List.length ho2.hp; rw [List.length_map] at h0; exact h0
  have HO2 := Lib.hid ho2
  obtain ⟨rA2, rn2, rc2, sA2, sn2, sc2, fA2, fn2, fc2, pA2, pn2, pc2⟩ := v2
  dsimp only [imgV] at HO2 hpl ⊢
  clear ho2
  have T3 := below1 W4 (.cells #[.int .i64 m.guest, .slice rA2 rn2 rc2, .slice sA2 sn2 sc2, .slice fA2 fn2 fc2, .slice pA2 pn2 pc2] 26)
  have HX3 := Lib.hid (HX.out.keep T3 (Nat.lt_of_lt_of_le (by have := HL2.out; omega) hbs))
  have HZ3 := Lib.hid (HZ.out.next T3)
  have HB3 := Lib.hid (below_next HB.out T3)
  have HO3 := Lib.hid (HO2.out.next T3)
  have HX4 := Lib.hid (Box.new W4 m.guest ⟨rA2, rn2, rc2, sA2, sn2, sc2, fA2, fn2, fc2, pA2, pn2, pc2⟩ 26)
  have HE := Lib.hid (BoxB.new W4 #[.int .i64 m.guest, .slice rA2 rn2 rc2, .slice sA2 sn2 sc2, .slice fA2 fn2 fc2, .slice pA2 pn2 pc2])
  have hbs3 : W4.heap.size < (W4.alloc (.cells #[.int .i64 m.guest, .slice rA2 rn2 rc2, .slice sA2 sn2 sc2, .slice fA2 fn2 fc2, .slice pA2 pn2 pc2] 26)).heap.size := by simp
  clear HO2 HX HZ HB T3
  go_upto_region 12 with fail
  generalize hbo : W4.heap.size = bo at *
  generalize W4.alloc (.cells #[.int .i64 m.guest, .slice rA2 rn2 rc2, .slice sA2 sn2 sc2, .slice fA2 fn2 fc2, .slice pA2 pn2 pc2] 26) = W5 at *
  have u0 : W5.cell? ⟨bo, 4, none⟩ = some (.slice pA2 pn2 pc2) := HX4.out.2.2.2.2
  have u1 : W5.cell? ⟨w.heap.size, 0, none⟩ = some (.int .i64 m.guest) := HX3.out.1
  have u2 : W5.cell? ⟨w.heap.size, 1, none⟩ = some (.slice rA rn rc) := HX3.out.2.1
  have UD : Below W5.heap.size W5 W5.drew := (Below.refl _ _).drew
  have HLW : Hid (w.heap.size < W5.heap.size) := Lib.hid (by have := HL2.out; omega)
  have HLO : Hid (bo < W5.heap.size) := Lib.hid hbs3
  refine wp_region_z (S := fun W' => W'.cell? ⟨bo, 4, none⟩ = some (.slice pA2 pn2 pc2) ∧ W'.cell? ⟨w.heap.size, 0, none⟩ = some (.int .i64 m.guest) ∧ W'.cell? ⟨w.heap.size, 1, none⟩ = some (.slice rA rn rc)) 13 (by kernel_rfl) (fun hC => ?_)
  have mvT := Lib.hid (fun (W' : World) (hb2 : Below W5.heap.size W5 W') => (show W'.cell? ⟨bo, 4, none⟩ = some (.slice pA2 pn2 pc2) ∧ W'.cell? ⟨w.heap.size, 0, none⟩ = some (.int .i64 m.guest) ∧ W'.cell? ⟨w.heap.size, 1, none⟩ = some (.slice rA rn rc) from
    ⟨(hb2.cell (p := ⟨bo, 4, none⟩) HLO.out).trans u0, (hb2.cell (p := ⟨w.heap.size, 0, none⟩) HLW.out).trans u1, (hb2.cell (p := ⟨w.heap.size, 1, none⟩) HLW.out).trans u2⟩))
  have hSS := mvT.out _ UD
  generalize W5.drew = W6 at *
  apply wpAnyZ_take (i := 0)
  case hi => rfl
  case hs => kernel_rfl
  case hf => kernel_rfl
  case hr => kernel_rfl
  case hu => kernel_rfl
  case hw => exact fun z h1 h2 => (by have h2 : z < 14 := h2; have h3 : z = 13 := (by omega); subst h3; exact ⟨[1, 11], by kernel_rfl⟩)
  case hQ => exact fun _ _ _ h => h
  case hy => exact Or.inl ⟨by rfl, fun w' hSw => by (obtain ⟨s0, s1, s2⟩ := hSw; go_simp; try with_reducible rfl)⟩
  case hS => assumption
  case hC => assumption
  clear hC
  intro hC
  apply wpAnyZ_take (i := 1)
  case hi => rfl
  case hs => kernel_rfl
  case hf => kernel_rfl
  case hr => kernel_rfl
  case hu => kernel_rfl
  case hw => exact fun z h1 h2 => (by have h2 : z < 14 := h2; have h3 : z = 13 := (by omega); subst h3; exact ⟨[11], by kernel_rfl⟩)
  case hQ => exact fun _ _ _ h => h
  case hy => exact Or.inl ⟨by rfl, fun w' hSw => by (obtain ⟨s0, s1, s2⟩ := hSw; go_simp; try with_reducible rfl)⟩
  case hS => assumption
  case hC => assumption
  clear hC
  intro hC
  apply wpAnyZ_take (i := 2)
  case hi => rfl
  case hs => kernel_rfl
  case hf => kernel_rfl
  case hr => kernel_rfl
  case hu => kernel_rfl
  case hw => exact fun z h1 h2 => (by have h2 : z < 14 := h2; have h3 : z = 13 := (by omega); subst h3; exact ⟨[11], by kernel_rfl⟩)
  case hQ => exact fun _ _ _ h => h
  case hy => exact Or.inl ⟨by rfl, fun w' hSw => by (obtain ⟨s0, s1, s2⟩ := hSw; go_simp; try with_reducible rfl)⟩
  case hS => assumption
  case hC => assumption
  clear hC
  intro hC
  apply wpAnyZ_take (i := 3)
  case hi => rfl
  case hs => kernel_rfl
  case hf => kernel_rfl
  case hr => kernel_rfl
  case hu => kernel_rfl
  case hw => exact fun z h1 h2 => (by have h2 : z < 14 := h2; have h3 : z = 13 := (by omega); subst h3; exact ⟨[9, 10, 11], by kernel_rfl⟩)
  case hQ => exact fun _ _ _ h => h
  case hy => exact Or.inl ⟨by rfl, fun w' hSw => by (obtain ⟨s0, s1, s2⟩ := hSw; go_simp; try with_reducible rfl)⟩
  case hS => assumption
  case hC => assumption
  clear hC
  intro hC
  apply wpAnyZ_take (i := 4)
  case hi => rfl
  case hs => kernel_rfl
  case hf => kernel_rfl
  case hr => kernel_rfl
  case hu => kernel_rfl
  case hw => exact fun z h1 h2 => (by have h2 : z < 14 := h2; have h3 : z = 13 := (by omega); subst h3; exact ⟨[5, 9, 10, 11], by kernel_rfl⟩)
  case hQ => exact fun _ _ _ h => h
  case hy => exact Or.inl ⟨by rfl, fun w' hSw => by (obtain ⟨s0, s1, s2⟩ := hSw; go_simp; try with_reducible rfl)⟩
  case hS => assumption
  case hC => assumption
  clear hC
  intro hC
  apply wpAnyZ_take (i := 5)
  case hi => rfl
  case hs => kernel_rfl
  case hf => kernel_rfl
  case hr => kernel_rfl
  case hu => kernel_rfl
  case hw => exact fun z h1 h2 => (by have h2 : z < 14 := h2; have h3 : z = 13 := (by omega); subst h3; exact ⟨[9, 10, 11], by kernel_rfl⟩)
  case hQ => exact fun _ _ _ h => h
  case hy => exact Or.inl ⟨by rfl, fun w' hSw => by (obtain ⟨s0, s1, s2⟩ := hSw; go_simp; try with_reducible rfl)⟩
  case hS => assumption
  case hC => assumption
  clear hC
  intro hC
  apply wpAnyZ_take (i := 6)
  case hi => rfl
  case hs => kernel_rfl
  case hf => kernel_rfl
  case hr => kernel_rfl
  case hu => kernel_rfl
  case hw => exact fun z h1 h2 => (by have h2 : z < 14 := h2; have h3 : z = 13 := (by omega); subst h3; exact ⟨[7, 8, 11], by kernel_rfl⟩)
  case hQ => exact fun _ _ _ h => h
  case hy => exact Or.inl ⟨by rfl, fun w' hSw => by (obtain ⟨s0, s1, s2⟩ := hSw; go_simp; try with_reducible rfl)⟩
  case hS => assumption
  case hC => assumption
  clear hC
  intro hC
  apply wpAnyZ_take (i := 7)
  case hi => rfl
  case hs => kernel_rfl
  case hf => kernel_rfl
  case hr => kernel_rfl
  case hu => kernel_rfl
  case hw => exact fun z h1 h2 => (by have h2 : z < 14 := h2; have h3 : z = 13 := (by omega); subst h3; exact ⟨[8, 11], by kernel_rfl⟩)
  case hQ => exact fun _ _ _ h => h
  case hy => exact Or.inl ⟨by rfl, fun w' hSw => by (obtain ⟨s0, s1, s2⟩ := hSw; go_simp; try with_reducible rfl)⟩
  case hS => assumption
  case hC => assumption
  clear hC
  intro hC
  clear hSS hC
  refine wpAnyZ_one (i := 8) (by kernel_rfl) rfl (fun K' hK => ?_)
  go_simp
  refine (KT.out _ (below_next HB3.out UD)).mono ?_
  rintro e W7 ⟨A7, c7, rfl, ho7, hb7, hc7, hm7⟩
  have U7 := below_next UD hb7
  refine hK.out _ _ (fun _ => mvT.out _ U7) ?_
  clear hK
  refine wpAnyZ_one (i := 9) (by kernel_rfl) rfl (fun K' hK => ?_)
  go_simp
  refine hK.out _ _ (fun _ => mvT.out _ U7) ?_
  clear hK
  refine wpAnyZ_one (i := 10) (by kernel_rfl) rfl (fun K' hK => ?_)
  go_simp
  have hb8 := below1 W7 (.cells #[.string name, .int .i64 m.guest, .slice A7 rn c7] 39)
  have U8 := below_next U7 hb8
  refine hK.out _ _ (fun _ => mvT.out _ U8) ?_
  clear hK
  have TB := TabO.made (base := base) (tg := tg) (t := 2) (.inr ho7) (by have := UD.size; omega) hrn hc7 hm7
  have O7 := ((HO3.out.next UD).retag (tg' := fun g => if W6.heap.size ≤ g then 2 else tg g) (fun b' hb' => if_neg (by omega))).next hb7
  generalize (fun g => if W6.heap.size ≤ g then 2 else tg g) = tg7 at *
  have O8 := O7.next hb8
  have TB8 := TB.next hb8
  have hlt7 := fun b e => (O7.snaps.lt b e).2
  have HV := heap_alloc_new W7 (.cells #[.string name, .int .i64 m.guest, .slice A7 rn c7] 39)
  have hins := insert_any base pn2 pc2 kk W7.heap.size pA2 p ⟨⟨name, m.guest, m.root⟩, A7, rn, c7⟩ (W7.alloc (.cells #[.string name, .int .i64 m.guest, .slice A7 rn c7] 39)) O8.snaps (by omega) (by omega) O8.ple (by have := U8.size; omega) HV (fun e => by have := hlt7 _ e; omega)
  have HINS := Lib.hid hins
  have HO8 := Lib.hid O8
  have HTB := Lib.hid TB8
  have HE8 := Lib.hid ((HE.out.next UD).next (below_next hb7 hb8))
  have HX8 := Lib.hid ((HX4.out.keep UD HLO.out).keep (below_next hb7 hb8) (Nat.lt_of_lt_of_le HLO.out UD.size))
  have HZ8' := Lib.hid ((HZ3.out.next UD).next (below_next hb7 hb8))
  have HB8' := Lib.hid (below_next HB3.out U8)
  have HLB8 : Hid (base ≤ (W7.alloc (.cells #[.string name, .int .i64 m.guest, .slice A7 rn c7] 39)).heap.size) := Lib.hid (by have := U8.size; omega)
  have HPL : Hid (kk ≤ p.length) := Lib.hid (by omega)
  clear hins O7 O8 TB TB8 ho7 hb7 hb8 U7 HV hlt7
  generalize W7.alloc (.cells #[.string name, .int .i64 m.guest, .slice A7 rn c7] 39) = W8 at *
  refine wpAnyZ_one (i := 11) (by kernel_rfl) rfl (fun K' hK => ?_)
  go_simp
  refine HINS.out.mono ?_
  rintro e W9 ⟨A9, c9, rfl, ho9, hg9, hn9, hm9⟩
  have O9 := HO8.out.putSnapN HPL.out (x := ⟨⟨name, m.guest, m.root⟩, A7, rn, c7⟩) hsz HTB.out ho9 hg9 hn9 (by omega) hm9
  have hrow : ∀ j, (Value.slice pA2 pn2 pc2).ownBlock = some j → base ≤ j := fun j e => (HO8.out.snaps.lt j e).1
  have hnb : some bo ≠ (Value.slice pA2 pn2 pc2).ownBlock := fun e => (HE8.out.ty.ne (own_block HO8.out.snaps e.symm) (by decide)) rfl
  have E9 := HE8.out.kept hg9 hnb
  have X9 := HX8.out.kept hg9 hnb
  have G9 : Below base W8 W9 := grown_below hg9 HLB8.out hrow
  have v1 := (G9.cell (p := ⟨w.heap.size, 0, none⟩) (by have := HL2.out; show w.heap.size < _; omega)).trans (mvT.out _ U8).2.1
  have v2 := (G9.cell (p := ⟨w.heap.size, 1, none⟩) (by have := HL2.out; show w.heap.size < _; omega)).trans (mvT.out _ U8).2.2
  refine hK.out _ _ (fun _ => ⟨X9.2.2.2.2, v1, v2⟩) ?_
  clear hK
  refine wpAnyZ_one (i := 12) (by kernel_rfl) rfl (fun K' hK => ?_)
  go_simp
  refine hK.out _ _ (fun _ => ⟨X9.2.2.2.2, v1, v2⟩) ?_
  clear hK
  have hgs := grown_set W9 bo 4 (.slice A9 (pn2 + 1) c9)
  have O10 := Lib.hid (O9.kept hgs E9.ty (by decide) (by decide) (by decide))
  have f4 := E9.fz 4
  obtain ⟨z0, z1, z2, z3, z4⟩ := X9
  have X10 : Hid (Box (W9.setCell ⟨bo, 4, none⟩ (.slice A9 (pn2 + 1) c9)) bo m.guest ⟨rA2, rn2, rc2, sA2, sn2, sc2, fA2, fn2, fc2, A9, pn2 + 1, c9⟩) := Lib.hid (by
    dsimp only at z0 z1 z2 z3 z4
    refine ⟨?_, ?_, ?_, ?_, ?_⟩ <;> go_simp)
  have HZ8 := Lib.hid ((HZ8'.out.nextB G9 HL2.out).nextB (Below.setCell (Below.refl base _) (p := ⟨bo, 4, none⟩) (by show base ≤ bo; omega) (.slice A9 (pn2 + 1) c9)) HL2.out)
  have HB8 := Lib.hid ((HB8'.out.trans (G9.mono HLB.out)).setCell (p := ⟨bo, 4, none⟩) (show w.heap.size ≤ bo by have := HLB.out; omega) (.slice A9 (pn2 + 1) c9))
  have hsz10 : base ≤ (W9.setCell ⟨bo, 4, none⟩ (.slice A9 (pn2 + 1) c9)).heap.size := by have := G9.size; have := HLB8.out; simp; omega
  dsimp only at z0 z1 z2 z3 z4
  refine wpAnyZ_one (i := 13) (by kernel_rfl) rfl (fun K' hK => ?_)
  go_simp
  refine hK.out _ _ (fun h => absurd h (by decide)) ?_
  clear hK
  refine wpAnyZ_done (by kernel_rfl) ?_ _
  rw [← HCX.out] at O10
  have KS := Lib.hid (ssettled_any _ _ _ _ _ _ _ O10.out hsz10 HSX.out.cbd HSX.out.wired)
  have HG : Hid (m.guest = (createX m name).guest) := Lib.hid rfl
  obtain ⟨z0', z1', z2', z3', z4'⟩ := X10.out
  dsimp only [imgV] at KS z0' z1' z2' z3' z4'
  rw [HG.out] at z0'
  clear z0 z1 z2 z3 z4 f4 hgs E9 O9 v1 v2 HX8 HE8 HO8 HTB hg9 G9 HB8' HZ8' HX3 HZ3 HB3 HO3 HX4 HE u0 u1 u2 mvT
  generalize W9.setCell ⟨bo, 4, none⟩ (.slice A9 (pn2 + 1) c9) = W10 at *
  go_wp2_with fail
  refine KS.out.mono ?_
  rintro e W11 ⟨v9, tg9, q9, rfl, O9, hb9⟩
  have HZ := Lib.hid (HZ8.out.nextB hb9 HL2.out)
  have HB := Lib.hid (HB8.out.trans (hb9.mono HLB.out))
  have HF : Hid (Fresh W11 base v9 (settled (createX m name))) := Lib.hid (.inr ⟨base, tg9, q9, _, Nat.le_refl _, O9⟩)
  clear HZ8 HB8 hb9 O9 KS
  dsimp only [imgV]
  obtain ⟨y0, y1, y2, y3, y4⟩ := HZ.out.cells
  obtain ⟨q0, q1, q2, q3, q4⟩ := HZ.out.froz
  obtain ⟨⟨k0, k1, k2, k3, k4⟩, hF, hB⟩ := outI HZ.out (HF.out.mono HLB.out) HB.out (Nat.le_refl _) (by omega)
  have HK := Lib.hid (And.intro k0 (And.intro k1 (And.intro k2 (And.intro k3 (And.intro k4 (And.intro hF hB))))))
  clear k0 k1 k2 k3 k4 hF hB
  go_wp2_with fail
  obtain ⟨k0, k1, k2, k3, k4, hF, hB⟩ := HK.out
  refine bodyPost_ret (v := .tuple #[imgV (settled (createX m name)) v9, .int .i64 0]) ?_ rfl ⟨v9, rfl, hF, hB⟩
  simp [results, Tryz.results8, go_sem, imgV, k0, k1, k2, k3, k4]
end Go.Proofs.YtfilnnjanhjbeaaGreat
