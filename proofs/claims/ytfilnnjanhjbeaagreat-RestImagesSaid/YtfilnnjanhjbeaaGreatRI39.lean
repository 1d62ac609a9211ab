/- Texts of the proof of restImages_holds: RSnCre. Conditions: as each text says. -/
import Derived.Test.YtfilnnjanhjbeaaGreatRI38
import Derived.Test.YtfilnnjanhjbeaaGreatRI34
import Derived.Test.YtfilnnjanhjbeaaGreatRI37
import Derived.Test.YtfilnnjanhjbeaaGreatRI20
import Derived.Test.YtfilnnjanhjbeaaGreatRI27
import Derived.IntWalk
import Derived.Test.YtfilnnjanhjbeaaGreatRI33
import Derived.Test.YtfilnnjanhjbeaaGreatRI22
import Derived.Deep.RegionLaw
namespace Go.Proofs.YtfilnnjanhjbeaaGreat
open Go.RowKit Sl
theorem swap_list {l : List Snap} {j : Nat} {y : Snap} (hy : l[j]? = some y) (x : Snap) : ((l.take (j + 1) ++ x :: l.drop (j + 1)).set (j + 1 - 1) x).set (j + 1) y = l.take j ++ x :: l.drop j := by
  have hl := (List.getElem?_eq_some_iff.1 hy).1
  have e1 : l.take (j + 1) = l.take j ++ [y] := by rw [List.take_add_one, hy]; rfl
  have e2 : l.drop j = y :: l.drop (j + 1) := by rw [List.drop_eq_getElem_cons hl]; congr 1; rw [List.getElem?_eq_getElem hl] at hy; injection hy
  have hk : (l.take j).length = j := by rw [List.length_take]; omega
  rw [e1, e2, Nat.add_sub_cancel, List.append_assoc, List.set_append_right _ _ (by omega), hk, Nat.sub_self, List.singleton_append, List.set_cons_zero, List.set_append_right _ _ (by omega), hk, show j + 1 - j = 1 from by omega]
  rfl
theorem store3I {W : World} {t : Nat} {z0 z1 z2 : Value} {T : TypeId} (h : W.heap[t]? = some (.cells #[z0, z1, z2] T (0, 0))) (u0 u1 u2 : Value) :
    (((W.setCell ⟨t, 0, none⟩ u0).setCell ⟨t, 1, none⟩ u1).setCell ⟨t, 2, none⟩ u2).heap[t]? = some (.cells #[u0, u1, u2] T (0, 0)) ∧ W.grownBy (((W.setCell ⟨t, 0, none⟩ u0).setCell ⟨t, 1, none⟩ u1).setCell ⟨t, 2, none⟩ u2) (some t) := by
  have h1 := heap_setCell_same W t 0 _ T u0 h
  have h2 := heap_setCell_same _ t 1 _ T u1 h1
  have h3 := heap_setCell_same _ t 2 _ T u2 h2
  exact ⟨h3, ((grown_set W t 0 u0).trans (grown_set _ t 1 u1)).trans (grown_set _ t 2 u2)⟩
set_option maxRecDepth 100000 in
set_option maxHeartbeats 2000000 in
theorem rcreate_ok (v : IV) (m : Img) (name : ByteArray) (w : World) (h : ImgR w w.heap.size v m) (he : createE m name = 0) (hsz : name.size ≤ 4611686018427387903) :
    Calls Tryz.prog 12 #[imgV m v, .string name] w (ImgOwn w.heap.size (settled (createX m name)) 0 w) := by
  have SX := create_sound he
  obtain ⟨he, hn, ha, h3⟩ := create_is he
  have SS := sound_of (check_is he).1
  obtain ⟨s1, s2, s3, s4, s5, S6⟩ := snaps_facts SS
  have hkl : insK m.snaps name ≤ m.snaps.length := insK_le _ _
  have hrn : v.rn ≤ 1000000 := by have := h.rlen; have := SS.cbd.root; omega
  have hp3 : ¬ v.pn = 3 := by have := h.plen; omega
  have hpv := h.plen
  have KC' := fun W (hb : Below w.heap.size w W) => rcheckimg_any v m W (h.next hb)
  have KN' := fun W (_ : Below w.heap.size w W) => (rname_any name W hsz).mono (R' := fun e w' => e = .returned (.bool (isName name)) ∧ Below W.heap.size W w') (fun e w' hh => ⟨hh.1, hh.2 ▸ Below.refl _ _⟩)
  have KS' := fun W (hb : Below w.heap.size w W) => rsnapAt_any v m name W (h.next hb)
  have KO' := fun W (hb : Below w.heap.size w W) => ownImg_any v m W (h.next hb) SS.cbd (by rw [(sh_is (check_is he).1).1.refs]; exact SS.cbd.slots)
  obtain ⟨f1, f2, f4, f5⟩ := boxes2 w m.guest v
  rw [he] at KC'
  rw [hn] at KN'
  rw [(past_none he ha).2.2] at KS'
  obtain ⟨rA, rn, rc, sA, sn, sc, fA, fn, fc, pA, pn, pc⟩ := v
  dsimp only [imgV] at KC' KN' KS' KO' f1 f2 f4 f5 ⊢
  have KC := Lib.hid KC'
  have KN := Lib.hid KN'
  have KS := Lib.hid KS'
  have KO := Lib.hid KO'
  clear KC' KN' KS' KO'
  have HX := Lib.hid f2
  obtain ⟨x0, x1, x2, x3, x4⟩ := f2
  dsimp only at x0 x1 x2 x3 x4
  have HCX := Lib.hid (show createX m name = { m with snaps := m.snaps.take (insK m.snaps name) ++ ⟨name, m.guest, m.root⟩ :: m.snaps.drop (insK m.snaps name) } from rfl)
  have HSX := Lib.hid SX
  have KRT := Lib.hid (fun W (hb : Below w.heap.size w W) => (h.next hb).root)
  have HLT := Lib.hid (fun (j : Nat) (s : Snap) (hx : m.snaps[j]? = some s) (hj : j < insK m.snaps name) => ins_before hj hx)
  have HGE := Lib.hid (fun (j : Nat) (s : Snap) (hx : m.snaps[j]? = some s) (hj : insK m.snaps name ≤ j) => (show strLt s.name name = false ∧ (s.name.toList == name.toList) = false from ⟨ins_after S6 hj hx, by
    cases hh : (s.name.toList == name.toList)
    · rfl
    · rw [List.any_eq_true.2 ⟨s, List.mem_of_getElem? hx, hh⟩] at ha; cases ha⟩))
  dsimp only at hp3 hpv hrn KRT
  have hp2 : pn ≤ 2 := by omega
  have hq3 : decide ((3 : Int) ≤ (pn : Int)) = false := by simp; omega
  clear hp3
  generalize hkk : insK m.snaps name = kk at *
  clear h he hn ha SS s1 s2 s3 s4 s5 S6 hkk SX
  go_enter Tryz.func12, Tryz.ntmps12
  go_wp2_with fail
  generalize (w.alloc (.cells #[.int .i64 m.guest, .slice rA rn rc, .slice sA sn sc, .slice fA fn fc, .slice pA pn pc] 26)).alloc (.cells #[.int .i64 0, .slice none 0 0, .slice none 0 0, .slice none 0 0, .slice none 0 0] 26) = W0 at *
  have HL : Hid (w.heap.size < W0.heap.size) := Lib.hid (by omega)
  have HZ := Lib.hid f4
  have HB := Lib.hid f1
  have h2 : W0.heap.size = w.heap.size + 1 + 1 := f5
  clear f1 f4 f5
  refine (KC.out _ HB.out).mono ?_
  rintro e W1 ⟨rfl, hb⟩
  have HX' := Lib.hid (HX.out.keep hb HL.out)
  have HZ' := Lib.hid (HZ.out.next hb)
  have HB' := Lib.hid (below_next HB.out hb)
  have HL' := Lib.hid (Nat.lt_of_lt_of_le HL.out hb.size)
  clear HX HZ HB HL x0 x1 x2 x3 x4 hb KC
  have HX := HX'
  have HZ := HZ'
  have HB := HB'
  have HL := HL'
  clear HX' HZ' HB' HL'
  obtain ⟨x0, x1, x2, x3, x4⟩ := HX.out
  dsimp only at x0 x1 x2 x3 x4
  go_wp2_with fail
  refine (KN.out _ HB.out).mono ?_
  rintro e W2 ⟨rfl, hb⟩
  have HX' := Lib.hid (HX.out.keep hb HL.out)
  have HZ' := Lib.hid (HZ.out.next hb)
  have HB' := Lib.hid (below_next HB.out hb)
  have HL' := Lib.hid (Nat.lt_of_lt_of_le HL.out hb.size)
  clear HX HZ HB HL x0 x1 x2 x3 x4 hb KN
  have HX := HX'
  have HZ := HZ'
  have HB := HB'
  have HL := HL'
  clear HX' HZ' HB' HL'
  obtain ⟨x0, x1, x2, x3, x4⟩ := HX.out
  dsimp only at x0 x1 x2 x3 x4
  go_wp2_with fail
  refine (KS.out _ HB.out).mono ?_
  rintro e W3 ⟨rfl, hb⟩
  have HX' := Lib.hid (HX.out.keep hb HL.out)
  have HZ' := Lib.hid (HZ.out.next hb)
  have HB' := Lib.hid (below_next HB.out hb)
  have HL' := Lib.hid (Nat.lt_of_lt_of_le HL.out hb.size)
  clear HX HZ HB HL x0 x1 x2 x3 x4 hb KS
  have HX := HX'
  have HZ := HZ'
  have HB := HB'
  have HL := HL'
  clear HX' HZ' HB' HL'
  obtain ⟨x0, x1, x2, x3, x4⟩ := HX.out
  dsimp only at x0 x1 x2 x3 x4
  go_wp2_with fail
  refine (KO.out _ HB.out).mono ?_
  rintro e W4 ⟨v2, tg, q, p, rfl, ho2, hb2⟩
  have HX' := Lib.hid (HX.out.keep hb2 HL.out)
  have HZ' := Lib.hid (HZ.out.next hb2)
  have HB' := Lib.hid (below_next HB.out hb2)
  have HLB : Hid (w.heap.size ≤ W3.heap.size) := Lib.hid HB.out.size
  have HL2 : Hid (w.heap.size + 1 < W3.heap.size) := Lib.hid (Array.getElem?_eq_some_iff.1 HZ.out.heap).1
  have hbs := hb2.size
  generalize W3.heap.size = base at *
  clear HX HZ HB HL x0 x1 x2 x3 x4 hb2 KO
  have HX := HX'
  have HZ := HZ'
  have HB := HB'
  clear HX' HZ' HB'
  have hpl := ho2.plen
  have hpm : p.length = m.snaps.length := by have h0 := congrArg List.length ho2.hp; rw [List.length_map] at h0; exact h0
  have HO2 := Lib.hid ho2
  obtain ⟨rA2, rn2, rc2, sA2, sn2, sc2, fA2, fn2, fc2, pA2, pn2, pc2⟩ := v2
  dsimp only [imgV] at HO2 hpl ⊢
  clear ho2
  have T3 := below1 W4 (.cells #[.int .i64 m.guest, .slice rA2 rn2 rc2, .slice sA2 sn2 sc2, .slice fA2 fn2 fc2, .slice pA2 pn2 pc2] 26)
  have HX3 := Lib.hid (HX.out.keep T3 (Nat.lt_of_lt_of_le (by have := HL2.out; omega) hbs))
  have HZ3 := Lib.hid (HZ.out.next T3)
  have HB3 := Lib.hid (below_next HB.out T3)
  have HO3 := Lib.hid (HO2.out.next T3)
  have HX4 := Lib.hid (Box.new W4 m.guest ⟨rA2, rn2, rc2, sA2, sn2, sc2, fA2, fn2, fc2, pA2, pn2, pc2⟩ 26)
  have HE := Lib.hid (BoxB.new W4 #[.int .i64 m.guest, .slice rA2 rn2 rc2, .slice sA2 sn2 sc2, .slice fA2 fn2 fc2, .slice pA2 pn2 pc2])
  have hbs3 : W4.heap.size < (W4.alloc (.cells #[.int .i64 m.guest, .slice rA2 rn2 rc2, .slice sA2 sn2 sc2, .slice fA2 fn2 fc2, .slice pA2 pn2 pc2] 26)).heap.size := by simp
  clear HO2 HX HZ HB T3
  go_upto_region 11 with fail
  generalize hbo : W4.heap.size = bo at *
  generalize W4.alloc (.cells #[.int .i64 m.guest, .slice rA2 rn2 rc2, .slice sA2 sn2 sc2, .slice fA2 fn2 fc2, .slice pA2 pn2 pc2] 26) = W5 at *
  have u0 : W5.cell? ⟨bo, 4, none⟩ = some (.slice pA2 pn2 pc2) := HX4.out.2.2.2.2
  have u1 : W5.cell? ⟨w.heap.size, 0, none⟩ = some (.int .i64 m.guest) := HX3.out.1
  have u2 : W5.cell? ⟨w.heap.size, 1, none⟩ = some (.slice rA rn rc) := HX3.out.2.1
  have UD : Below W5.heap.size W5 W5.drew := (Below.refl _ _).drew
  have HLW : Hid (w.heap.size < W5.heap.size) := Lib.hid (by have := HL2.out; omega)
  have HLO : Hid (bo < W5.heap.size) := Lib.hid hbs3
  refine wp_region_z (S := fun W' => W'.cell? ⟨bo, 4, none⟩ = some (.slice pA2 pn2 pc2) ∧ W'.cell? ⟨w.heap.size, 0, none⟩ = some (.int .i64 m.guest) ∧ W'.cell? ⟨w.heap.size, 1, none⟩ = some (.slice rA rn rc)) 13 (by kernel_rfl) (fun hC => ?_)
  have mvT := Lib.hid (fun (W' : World) (hb2 : Below W5.heap.size W5 W') => (show W'.cell? ⟨bo, 4, none⟩ = some (.slice pA2 pn2 pc2) ∧ W'.cell? ⟨w.heap.size, 0, none⟩ = some (.int .i64 m.guest) ∧ W'.cell? ⟨w.heap.size, 1, none⟩ = some (.slice rA rn rc) from
    ⟨(hb2.cell (p := ⟨bo, 4, none⟩) HLO.out).trans u0, (hb2.cell (p := ⟨w.heap.size, 0, none⟩) HLW.out).trans u1, (hb2.cell (p := ⟨w.heap.size, 1, none⟩) HLW.out).trans u2⟩))
  have hSS := mvT.out _ UD
  generalize W5.drew = W6 at *
  apply wpAnyZ_take (i := 0)
  case hi => rfl
  case hs => kernel_rfl
  case hf => kernel_rfl
  case hr => kernel_rfl
  case hu => kernel_rfl
  case hw => exact fun z h1 h2 => (by have h2 : z < 14 := h2; have h3 : z = 13 := (by omega); subst h3; exact ⟨[1, 11], by kernel_rfl⟩)
  case hQ => exact fun _ _ _ h => h
  case hy => exact Or.inl ⟨by rfl, fun w' hSw => by (obtain ⟨s0, s1, s2⟩ := hSw; go_simp; try with_reducible rfl)⟩
  case hS => assumption
  case hC => assumption
  clear hC
  intro hC
  apply wpAnyZ_take (i := 1)
  case hi => rfl
  case hs => kernel_rfl
  case hf => kernel_rfl
  case hr => kernel_rfl
  case hu => kernel_rfl
  case hw => exact fun z h1 h2 => (by have h2 : z < 14 := h2; have h3 : z = 13 := (by omega); subst h3; exact ⟨[11], by kernel_rfl⟩)
  case hQ => exact fun _ _ _ h => h
  case hy => exact Or.inl ⟨by rfl, fun w' hSw => by (obtain ⟨s0, s1, s2⟩ := hSw; go_simp; try with_reducible rfl)⟩
  case hS => assumption
  case hC => assumption
  clear hC
  intro hC
  apply wpAnyZ_take (i := 2)
  case hi => rfl
  case hs => kernel_rfl
  case hf => kernel_rfl
  case hr => kernel_rfl
  case hu => kernel_rfl
  case hw => exact fun z h1 h2 => (by have h2 : z < 14 := h2; have h3 : z = 13 := (by omega); subst h3; exact ⟨[9, 10, 11], by kernel_rfl⟩)
  case hQ => exact fun _ _ _ h => h
  case hy => exact Or.inl ⟨by rfl, fun w' hSw => by (obtain ⟨s0, s1, s2⟩ := hSw; go_simp; try with_reducible rfl)⟩
  case hS => assumption
  case hC => assumption
  clear hC
  intro hC
  apply wpAnyZ_take (i := 3)
  case hi => rfl
  case hs => kernel_rfl
  case hf => kernel_rfl
  case hr => kernel_rfl
  case hu => kernel_rfl
  case hw => exact fun z h1 h2 => (by have h2 : z < 14 := h2; have h3 : z = 13 := (by omega); subst h3; exact ⟨[4, 9, 10, 11], by kernel_rfl⟩)
  case hQ => exact fun _ _ _ h => h
  case hy => exact Or.inl ⟨by rfl, fun w' hSw => by (obtain ⟨s0, s1, s2⟩ := hSw; go_simp; try with_reducible rfl)⟩
  case hS => assumption
  case hC => assumption
  clear hC
  intro hC
  apply wpAnyZ_take (i := 4)
  case hi => rfl
  case hs => kernel_rfl
  case hf => kernel_rfl
  case hr => kernel_rfl
  case hu => kernel_rfl
  case hw => exact fun z h1 h2 => (by have h2 : z < 14 := h2; have h3 : z = 13 := (by omega); subst h3; exact ⟨[9, 10, 11], by kernel_rfl⟩)
  case hQ => exact fun _ _ _ h => h
  case hy => exact Or.inl ⟨by rfl, fun w' hSw => by (obtain ⟨s0, s1, s2⟩ := hSw; go_simp; try with_reducible rfl)⟩
  case hS => assumption
  case hC => assumption
  clear hC
  intro hC
  apply wpAnyZ_take (i := 6)
  case hi => rfl
  case hs => kernel_rfl
  case hf => kernel_rfl
  case hr => kernel_rfl
  case hu => kernel_rfl
  case hw => exact fun z h1 h2 => (by have h2 : z < 14 := h2; have h3 : z = 13 := (by omega); subst h3; exact ⟨[7, 8, 11], by kernel_rfl⟩)
  case hQ => exact fun _ _ _ h => h
  case hy => exact Or.inl ⟨by rfl, fun w' hSw => by (obtain ⟨s0, s1, s2⟩ := hSw; go_simp; try with_reducible rfl)⟩
  case hS => assumption
  case hC => assumption
  clear hC
  intro hC
  apply wpAnyZ_take (i := 7)
  case hi => rfl
  case hs => kernel_rfl
  case hf => kernel_rfl
  case hr => kernel_rfl
  case hu => kernel_rfl
  case hw => exact fun z h1 h2 => (by have h2 : z < 14 := h2; have h3 : z = 13 := (by omega); subst h3; exact ⟨[8, 11], by kernel_rfl⟩)
  case hQ => exact fun _ _ _ h => h
  case hy => exact Or.inl ⟨by rfl, fun w' hSw => by (obtain ⟨s0, s1, s2⟩ := hSw; go_simp; try with_reducible rfl)⟩
  case hS => assumption
  case hC => assumption
  clear hC
  intro hC
  clear hSS hC
  refine wpAnyZ_one (i := 5) (by kernel_rfl) rfl (fun K' hK => ?_)
  go_simp
  have hb7 := below1 W6 (.cells #[] 3)
  have U7 := below_next UD hb7
  refine hK.out _ _ (fun _ => mvT.out _ U7) ?_
  clear hK
  refine wpAnyZ_one (i := 8) (by kernel_rfl) rfl (fun K' hK => ?_)
  refine step_appE rfl _ _ rfl rfl _ rfl _ _ _ rfl _ (KRT.out _ (below_next HB3.out U7)) hrn (EB.new' rfl) ?_
  intro A8 c8 W8 ho8 hb8 hc8 hm8
  have U8 := below_next U7 hb8
  refine hK.out _ _ (fun _ => mvT.out _ U8) ?_
  clear hK
  refine wpAnyZ_one (i := 9) (by kernel_rfl) rfl (fun K' hK => ?_)
  go_simp
  refine hK.out _ _ (fun _ => mvT.out _ U8) ?_
  clear hK
  have TB := TabO.made (base := base) (tg := tg) (t := 2 * pn2 + 5) ho8 (by have := U7.size; omega) hrn hc8 hm8
  have O8 := ((HO3.out.next U7).retag (tg' := fun g => if (W6.alloc (.cells #[] 3)).heap.size ≤ g then 2 * pn2 + 5 else tg g) (fun b' hb' => if_neg (by omega))).next hb8
  generalize (fun g => if (W6.alloc (.cells #[] 3)).heap.size ≤ g then 2 * pn2 + 5 else tg g) = tg8 at *
  obtain ⟨ip0, hip, hpz0, hpz1, hpz2⟩ := info_parts Tryz.infoSnap
  obtain ⟨A9, c9, W9, q1, q2, q3, q4, q5, q6, _⟩ := app_one (P := Tryz.prog) W8 base 24 24 39 ip0 _ 3 48 Tryz.underlying24 hip hpz0 hpz1 hpz2 rfl (by omega) _ _ _ O8.snaps #[.string name, .int .i64 m.guest, .slice A8 rn c8] rfl
    (fun u hu => one_pv [⟨⟨name, m.guest, m.root⟩, A8, rn, c8⟩] u (by simpa [PV.cells] using hu)) (by dsimp only; omega) (by dsimp only; unfold maxLen; omega) (by have := U8.size; omega)
  dsimp only at q1 q2 q4 q6
  have HR := Lib.hid q1
  have hb9 := below1 W8 (.cells #[.string name, .int .i64 m.guest, .slice A8 rn c8] 39)
  have U9 := below_next U8 hb9
  refine wpAnyZ_one (i := 10) (by kernel_rfl) rfl (fun K' hK => ?_)
  go_simp
  refine hK.out _ _ (fun _ => mvT.out _ U9) ?_
  clear hK
  have O9 := (O8.next hb9).pushSnap (x := ⟨⟨name, m.guest, m.root⟩, A8, rn, c8⟩) q2 q6 q4 q5 (by dsimp only; omega) hsz (TB.next hb9)
  have hnb : some bo ≠ (Value.slice pA2 pn2 pc2).ownBlock := fun e => (HE.out.ty.ne (own_block HO3.out.snaps e.symm) (by decide)) rfl
  have E9 := (HE.out.next U9).kept q6 hnb
  have X9 := (HX4.out.keep U9 HLO.out).kept q6 hnb
  have G9 : Below base W5 W9 := (U9.mono (by omega)).grown q6 (by have := U9.size; omega) (fun j e => (HO3.out.snaps.lt j e).1)
  have v1 := (G9.cell (p := ⟨w.heap.size, 0, none⟩) (by have := HL2.out; show w.heap.size < _; omega)).trans u1
  have v2 := (G9.cell (p := ⟨w.heap.size, 1, none⟩) (by have := HL2.out; show w.heap.size < _; omega)).trans u2
  have hgs := grown_set W9 bo 4 (.slice A9 (pn2 + 1) c9)
  have O10 := Lib.hid (O9.kept hgs E9.ty (by decide) (by decide) (by decide))
  have E10 := Lib.hid (E9.set 4 (.slice A9 (pn2 + 1) c9))
  have f4 := E9.fz 4
  obtain ⟨z0, z1, z2, z3, z4⟩ := X9
  have X10 : Hid (Box (W9.setCell ⟨bo, 4, none⟩ (.slice A9 (pn2 + 1) c9)) bo m.guest ⟨rA2, rn2, rc2, sA2, sn2, sc2, fA2, fn2, fc2, A9, pn2 + 1, c9⟩) := Lib.hid (by
    dsimp only at z0 z1 z2 z3 z4
    refine ⟨?_, ?_, ?_, ?_, ?_⟩ <;> go_simp)
  have G10 := G9.setCell (p := ⟨bo, 4, none⟩) (by show base ≤ bo; omega) (.slice A9 (pn2 + 1) c9)
  have HZ8 := Lib.hid (HZ3.out.nextB G10 HL2.out)
  have HB8 := Lib.hid (HB3.out.trans (G10.mono HLB.out))
  have hsz10 : base ≤ (W9.setCell ⟨bo, 4, none⟩ (.slice A9 (pn2 + 1) c9)).heap.size := by have := G10.size; omega
  clear q1 q2 q3 q4 q6 O9 O8 TB ho8 hb8 hgs
  refine wpAnyZ_one (i := 11) (by kernel_rfl) rfl (fun K' hK => ?_)
  refine step_app rfl _ _ _ _ _ rfl rfl rfl rfl HR.out ?_
  refine hK.out _ _ (fun _ => ⟨z4, v1, v2⟩) ?_
  clear hK
  dsimp only at z0 z1 z2 z3 z4
  refine wpAnyZ_one (i := 12) (by kernel_rfl) rfl (fun K' hK => ?_)
  go_simp
  refine hK.out _ _ (fun _ => ⟨z4, v1, v2⟩) ?_
  clear hK
  refine wpAnyZ_one (i := 13) (by kernel_rfl) rfl (fun K' hK => ?_)
  go_simp
  refine hK.out _ _ (fun h => absurd h (by decide)) ?_
  clear hK
  refine wpAnyZ_done (by kernel_rfl) ?_ _
  have HPM := Lib.hid (show m.snaps.length = pn2 by omega)
  have hpp2 : pn2 ≤ 2 := by have := HPM.out; omega
  have hc9 : pn2 + 1 ≤ c9 := by have := O10.out.ple; exact this
  have hcm9 : c9 ≤ maxLen := by have := O10.out.pcap.2; unfold maxLen; exact this
  have HA9 := Lib.hid (own_some O10.out.snaps (by dsimp only; omega))
  have HBO : Hid (w.heap.size + 1 < bo) := Lib.hid (by have := HL2.out; omega)
  clear z0 z1 z2 z3 z4 f4 v1 v2 E9 G9 G10 U9 U8 U7 UD hb9 hb7 hnb u0 u1 u2 mvT HX3 HZ3 HB3 HO3 HX4 HE HR KRT HLW HLO
  generalize W9.setCell ⟨bo, 4, none⟩ (.slice A9 (pn2 + 1) c9) = W10 at *
  obtain ⟨gs, hA9, hgs, hgl⟩ := HA9.out
  dsimp only at hA9
  subst hA9
  obtain ⟨z0, z1, z2, z3, z4⟩ := X10.out
  dsimp only at z0 z1 z2 z3 z4
  have hkk : kk ≤ pn2 := by have := HPM.out; omega
  go_wp2_with fail
  clear z0 z1 z2 z3 z4
  go_loopw [8] (fun i wr => ∃ (k : Nat) (tgl : Nat → Nat) (pl : List PV), i = .int .i64 k ∧ kk ≤ k ∧ k ≤ pn2 ∧ OwnI wr base tgl ⟨rA2, rn2, rc2, sA2, sn2, sc2, fA2, fn2, fc2, some ⟨gs, 0, none⟩, pn2 + 1, c9⟩ q pl { m with snaps := m.snaps.take k ++ ⟨name, m.guest, m.root⟩ :: m.snaps.drop k } ∧ Box wr bo m.guest ⟨rA2, rn2, rc2, sA2, sn2, sc2, fA2, fn2, fc2, some ⟨gs, 0, none⟩, pn2 + 1, c9⟩ ∧ BoxB wr bo ∧ ZB wr (w.heap.size + 1) ∧ Below w.heap.size w wr ∧ base ≤ wr.heap.size) (fun i _ => (intOf i).toNat)
  case atStart => exact ⟨pn2, tg8, p ++ [⟨⟨name, m.guest, m.root⟩, A8, rn, c8⟩], by go_num, hkk, Nat.le_refl _, by rw [List.take_of_length_le (by rw [HPM.out]; omega), List.drop_of_length_le (by rw [HPM.out]; omega)]; exact O10.out, X10.out, E10.out, HZ8.out, HB8.out, hsz10⟩
  case round =>
    clear O10 X10 E10 HZ8 HB8 hsz10
    obtain ⟨k, tgl, pl, rfl, hk1, hk2, ho, hx, hE, hZ, hbw, hbz⟩ := hrel
    have HO := Lib.hid ho
    have HXB := Lib.hid hx
    have HE := Lib.hid hE
    have HZ8 := Lib.hid hZ
    have HB8 := Lib.hid hbw
    obtain ⟨z0, z1, z2, z3, z4⟩ := hx
    dsimp only at z0 z1 z2 z3 z4
    clear ho hE hZ hbw
    have hcl : ∀ j, j < (pn2 + 1) * 3 → wr.cell? ⟨gs, j, none⟩ = (pl.flatMap PV.cells)[j]? := fun j hj => HO.out.snaps.cellAt j hj
    have hfr : ∀ j, wr.frozen? ⟨gs, j, none⟩ = false := fun j => HO.out.snaps.frozenAt j
    have hpl : pl.length = pn2 + 1 := HO.out.plen
    have hpm : pl.map (·.s) = m.snaps.take k ++ ⟨name, m.guest, m.root⟩ :: m.snaps.drop k := HO.out.hp
    have htl : (m.snaps.take k).length = k := by rw [List.length_take, HPM.out]; omega
    by_cases h0 : k = 0
    · subst h0
      obtain rfl : kk = 0 := by omega
      clear hcl hfr hpl hpm htl
      go_wp2_with fail
      go_quiet (fail)
      have UQ := below_drewN (Below.refl wr.heap.size wr) nq
      have HO' := Lib.hid (HO.out.next UQ)
      have HX' := Lib.hid (HXB.out.keep UQ HE.out.ty.lt)
      have HE' := Lib.hid (HE.out.next UQ)
      have HZ' := Lib.hid (HZ8.out.next UQ)
      have HB' := Lib.hid (below_next HB8.out UQ)
      have hbz' := Nat.le_trans hbz UQ.size
      clear HO HXB HE HZ8 HB8 hbz z0 z1 z2 z3 z4
      generalize wr.drewN nq = wq at *
      obtain ⟨z0, z1, z2, z3, z4⟩ := HX'.out
      dsimp only at z0 z1 z2 z3 z4
      have HO := HO'
      have HXB := HX'
      have HE := HE'
      have HZ8 := HZ'
      have HB8 := HB'
      have hbz := hbz'
      clear HO' HX' HE' HZ' HB' hbz'
      go_upto_region 18 with fail
      rw [← HCX.out] at HO
      have KS := Lib.hid (counted_any _ _ _ _ _ _ _ HO.out hbz HSX.out.cbd)
      have HG : Hid (m.guest = (createX m name).guest) := Lib.hid rfl
      dsimp only [imgV] at KS
      rw [← HG.out] at KS
      clear HG
      go_wp2_with fail
      refine KS.out.mono ?_
      rintro e W11 ⟨v9, tg9, q9, p9, rfl, O9, hb9⟩
      have HZ := Lib.hid (HZ8.out.nextB hb9 HL2.out)
      have HB := Lib.hid (HB8.out.trans (hb9.mono HLB.out))
      have HF : Hid (Fresh W11 base v9 (settled (createX m name))) := Lib.hid (.inr ⟨base, tg9, q9, _, Nat.le_refl _, O9⟩)
      clear HZ8 HB8 hb9 O9 KS
      dsimp only [imgV]
      obtain ⟨y0, y1, y2, y3, y4⟩ := HZ.out.cells
      obtain ⟨q0, q1, q2, q3, q4⟩ := HZ.out.froz
      obtain ⟨⟨k0, k1, k2, k3, k4⟩, hF, hB⟩ := outI HZ.out (HF.out.mono HLB.out) HB.out (Nat.le_refl _) (by omega)
      have HK := Lib.hid (And.intro k0 (And.intro k1 (And.intro k2 (And.intro k3 (And.intro k4 (And.intro hF hB))))))
      clear k0 k1 k2 k3 k4 hF hB
      go_wp2_with fail
      obtain ⟨k0, k1, k2, k3, k4, hF, hB⟩ := HK.out
      refine bodyPost_ret (v := .tuple #[imgV (settled (createX m name)) v9, .int .i64 0]) ?_ rfl ⟨v9, rfl, hF, hB⟩
      simp [results, Tryz.results12, go_sem, imgV, k0, k1, k2, k3, k4]
    · obtain ⟨j, rfl⟩ : ∃ j, k = j + 1 := ⟨k - 1, by omega⟩
      have hjl : j < pl.length := by omega
      have hjl1 : j + 1 < pl.length := by omega
      obtain ⟨y, hy⟩ : ∃ y, pl[j]? = some y := ⟨_, List.getElem?_eq_getElem hjl⟩
      obtain ⟨x, hx⟩ : ∃ x, pl[j + 1]? = some x := ⟨_, List.getElem?_eq_getElem hjl1⟩
      have hys : m.snaps[j]? = some y.s := by
        have := congrArg (fun l => l[j]?) hpm
        simp only [List.getElem?_map, hy, Option.map_some] at this
        rw [List.getElem?_append_left (by omega), List.getElem?_take_of_lt (by omega)] at this
        exact this.symm
      have hxs : x.s = ⟨name, m.guest, m.root⟩ := by
        have := congrArg (fun l => l[j + 1]?) hpm
        simp only [List.getElem?_map, hx, Option.map_some] at this
        rw [List.getElem?_append_right (by omega), htl, Nat.sub_self, List.getElem?_cons_zero] at this
        injection this
      have a0 : wr.cell? ⟨gs, j * 3, none⟩ = (PV.cells y)[0]? := (hcl (j * 3) (by omega)).trans (flat3_at PV.cells PV.cells_len pl j y hy 0 (by omega))
      have a1 := (hcl (j * 3 + 1) (by omega)).trans (flat3_at PV.cells PV.cells_len pl j y hy 1 (by omega))
      have a2 := (hcl (j * 3 + 2) (by omega)).trans (flat3_at PV.cells PV.cells_len pl j y hy 2 (by omega))
      have b0 : wr.cell? ⟨gs, (j + 1) * 3, none⟩ = (PV.cells x)[0]? := (hcl ((j + 1) * 3) (by omega)).trans (flat3_at PV.cells PV.cells_len pl (j + 1) x hx 0 (by omega))
      have b1 := (hcl ((j + 1) * 3 + 1) (by omega)).trans (flat3_at PV.cells PV.cells_len pl (j + 1) x hx 1 (by omega))
      have b2 := (hcl ((j + 1) * 3 + 2) (by omega)).trans (flat3_at PV.cells PV.cells_len pl (j + 1) x hx 2 (by omega))
      simp only [PV.cells, List.getElem?_cons_zero, List.getElem?_cons_succ] at a0 a1 a2 b0 b1 b2
      have e1 : (0 : Int) ≤ (j : Int) := by omega
      have e2 : (j : Int) < (pn2 : Int) + 1 := by omega
      have e3 : (0 : Int) ≤ (j : Int) + 1 := by omega
      have e4 : (j : Int) + 1 < (pn2 : Int) + 1 := by omega
      have e5 : (0 : Int) < (j : Int) + 1 := by omega
      have e6 : ((j : Int) + 1).toNat = j + 1 := by omega
      have e7 : IntKind.i64.wrap (j : Int) = (j : Int) := IntWalk.i64_in _ (by omega)
      by_cases hjk : j < kk
      · have hlt := HLT.out j y.s hys hjk
        rw [← less_str, show name = x.s.name from by rw [hxs]] at hlt
        clear hxs
        obtain rfl : kk = j + 1 := by omega
        clear hcl hfr hpl hpm htl
        go_wp2_with fail
        go_quiet (fail)
        have UQ := below_drewN (Below.refl wr.heap.size wr) nq
        have HO' := Lib.hid (HO.out.next UQ)
        have HX' := Lib.hid (HXB.out.keep UQ HE.out.ty.lt)
        have HE' := Lib.hid (HE.out.next UQ)
        have HZ' := Lib.hid (HZ8.out.next UQ)
        have HB' := Lib.hid (below_next HB8.out UQ)
        have hbz' := Nat.le_trans hbz UQ.size
        clear HO HXB HE HZ8 HB8 hbz z0 z1 z2 z3 z4
        generalize wr.drewN nq = wq at *
        obtain ⟨z0, z1, z2, z3, z4⟩ := HX'.out
        dsimp only at z0 z1 z2 z3 z4
        have HO := HO'
        have HXB := HX'
        have HE := HE'
        have HZ8 := HZ'
        have HB8 := HB'
        have hbz := hbz'
        clear HO' HX' HE' HZ' HB' hbz'
        go_upto_region 18 with fail
        rw [← HCX.out] at HO
        have KS := Lib.hid (counted_any _ _ _ _ _ _ _ HO.out hbz HSX.out.cbd)
        have HG : Hid (m.guest = (createX m name).guest) := Lib.hid rfl
        dsimp only [imgV] at KS
        rw [← HG.out] at KS
        clear HG
        go_wp2_with fail
        refine KS.out.mono ?_
        rintro e W11 ⟨v9, tg9, q9, p9, rfl, O9, hb9⟩
        have HZ := Lib.hid (HZ8.out.nextB hb9 HL2.out)
        have HB := Lib.hid (HB8.out.trans (hb9.mono HLB.out))
        have HF : Hid (Fresh W11 base v9 (settled (createX m name))) := Lib.hid (.inr ⟨base, tg9, q9, _, Nat.le_refl _, O9⟩)
        clear HZ8 HB8 hb9 O9 KS
        dsimp only [imgV]
        obtain ⟨y0, y1, y2, y3, y4⟩ := HZ.out.cells
        obtain ⟨q0, q1, q2, q3, q4⟩ := HZ.out.froz
        obtain ⟨⟨k0, k1, k2, k3, k4⟩, hF, hB⟩ := outI HZ.out (HF.out.mono HLB.out) HB.out (Nat.le_refl _) (by omega)
        have HK := Lib.hid (And.intro k0 (And.intro k1 (And.intro k2 (And.intro k3 (And.intro k4 (And.intro hF hB))))))
        clear k0 k1 k2 k3 k4 hF hB
        go_wp2_with fail
        obtain ⟨k0, k1, k2, k3, k4, hF, hB⟩ := HK.out
        refine bodyPost_ret (v := .tuple #[imgV (settled (createX m name)) v9, .int .i64 0]) ?_ rfl ⟨v9, rfl, hF, hB⟩
        simp [results, Tryz.results12, go_sem, imgV, k0, k1, k2, k3, k4]
      · obtain ⟨hlt, hne⟩ := HGE.out j y.s hys (by omega)
        rw [← less_str, show name = x.s.name from by rw [hxs]] at hlt
        rw [show name = x.s.name from by rw [hxs]] at hne
        have HXN := Lib.hid hxs
        clear hxs
        go_wp2_with fail
        go_quiet (fail)
        have UQ := below_drewN (Below.refl wr.heap.size wr) nq
        have HO' := Lib.hid (HO.out.next UQ)
        have HX' := Lib.hid (HXB.out.keep UQ HE.out.ty.lt)
        have HE' := Lib.hid (HE.out.next UQ)
        have HZ' := Lib.hid (HZ8.out.next UQ)
        have HB' := Lib.hid (below_next HB8.out UQ)
        have hbz' := Nat.le_trans hbz UQ.size
        clear HO HXB HE HZ8 HB8 hbz z0 z1 z2 z3 z4
        generalize wr.drewN nq = wq at *
        obtain ⟨z0, z1, z2, z3, z4⟩ := HX'.out
        dsimp only at z0 z1 z2 z3 z4
        have HO := HO'
        have HXB := HX'
        have HE := HE'
        have HZ8 := HZ'
        have HB8 := HB'
        have hbz := hbz'
        clear HO' HX' HE' HZ' HB' hbz'
        have hcl : ∀ i, i < (pn2 + 1) * 3 → wq.cell? ⟨gs, i, none⟩ = (pl.flatMap PV.cells)[i]? := fun i hi => HO.out.snaps.cellAt i hi
        have a0 : wq.cell? ⟨gs, j * 3, none⟩ = some (.string y.s.name) := (hcl (j * 3) (by omega)).trans (flat3_at PV.cells PV.cells_len _ j y hy 0 (by omega))
        have a1 : wq.cell? ⟨gs, j * 3 + 1, none⟩ = some (.int .i64 y.s.guest) := (hcl (j * 3 + 1) (by omega)).trans (flat3_at PV.cells PV.cells_len _ j y hy 1 (by omega))
        have a2 : wq.cell? ⟨gs, j * 3 + 2, none⟩ = some (.slice y.A y.n y.c) := (hcl (j * 3 + 2) (by omega)).trans (flat3_at PV.cells PV.cells_len _ j y hy 2 (by omega))
        have b0 : wq.cell? ⟨gs, (j + 1) * 3, none⟩ = some (.string x.s.name) := (hcl ((j + 1) * 3) (by omega)).trans (flat3_at PV.cells PV.cells_len _ (j + 1) x hx 0 (by omega))
        have b1 : wq.cell? ⟨gs, (j + 1) * 3 + 1, none⟩ = some (.int .i64 x.s.guest) := (hcl ((j + 1) * 3 + 1) (by omega)).trans (flat3_at PV.cells PV.cells_len _ (j + 1) x hx 1 (by omega))
        have b2 : wq.cell? ⟨gs, (j + 1) * 3 + 2, none⟩ = some (.slice x.A x.n x.c) := (hcl ((j + 1) * 3 + 2) (by omega)).trans (flat3_at PV.cells PV.cells_len _ (j + 1) x hx 2 (by omega))
        go_upto_region 15 with fail
        have hgl0 := (HO.out.snaps.lt gs rfl).2
        try dsimp only at hgl0
        have hbl0 := HE.out.ty.lt
        have UD : Below wq.heap.size wq wq.drew := (Below.refl _ _).drew
        refine wp_region_z (S := fun W' => W'.cell? ⟨bo, 4, none⟩ = some (.slice (some ⟨gs, 0, none⟩) (pn2 + 1) c9) ∧ W'.cell? ⟨gs, j * 3, none⟩ = some (.string y.s.name) ∧ W'.cell? ⟨gs, j * 3 + 1, none⟩ = some (.int .i64 y.s.guest) ∧ W'.cell? ⟨gs, j * 3 + 2, none⟩ = some (.slice y.A y.n y.c) ∧ W'.cell? ⟨gs, (j + 1) * 3, none⟩ = some (.string x.s.name) ∧ W'.cell? ⟨gs, (j + 1) * 3 + 1, none⟩ = some (.int .i64 x.s.guest) ∧ W'.cell? ⟨gs, (j + 1) * 3 + 2, none⟩ = some (.slice x.A x.n x.c)) 14 (by kernel_rfl) (fun hC => ?_)
        have mvT := Lib.hid (fun (W' : World) (hb2 : Below wq.heap.size wq W') => (show W'.cell? ⟨bo, 4, none⟩ = some (.slice (some ⟨gs, 0, none⟩) (pn2 + 1) c9) ∧ W'.cell? ⟨gs, j * 3, none⟩ = some (.string y.s.name) ∧ W'.cell? ⟨gs, j * 3 + 1, none⟩ = some (.int .i64 y.s.guest) ∧ W'.cell? ⟨gs, j * 3 + 2, none⟩ = some (.slice y.A y.n y.c) ∧ W'.cell? ⟨gs, (j + 1) * 3, none⟩ = some (.string x.s.name) ∧ W'.cell? ⟨gs, (j + 1) * 3 + 1, none⟩ = some (.int .i64 x.s.guest) ∧ W'.cell? ⟨gs, (j + 1) * 3 + 2, none⟩ = some (.slice x.A x.n x.c) from
          ⟨(hb2.cell (p := ⟨bo, 4, none⟩) hbl0).trans z4, (hb2.cell (p := ⟨gs, j * 3, none⟩) hgl0).trans a0, (hb2.cell (p := ⟨gs, j * 3 + 1, none⟩) hgl0).trans a1, (hb2.cell (p := ⟨gs, j * 3 + 2, none⟩) hgl0).trans a2, (hb2.cell (p := ⟨gs, (j + 1) * 3, none⟩) hgl0).trans b0, (hb2.cell (p := ⟨gs, (j + 1) * 3 + 1, none⟩) hgl0).trans b1, (hb2.cell (p := ⟨gs, (j + 1) * 3 + 2, none⟩) hgl0).trans b2⟩))
        have hSS := mvT.out _ UD
        generalize wq.drew = wD at *
        apply wpAnyZ_take (i := 0)
        case hi => rfl
        case hs => kernel_rfl
        case hf => kernel_rfl
        case hr => kernel_rfl
        case hu => kernel_rfl
        case hw => exact fun z h1 h2 => (by have h2 : z < 15 := h2; have h3 : z = 14 := (by omega); subst h3; exact ⟨[1, 4, 5, 13], by kernel_rfl⟩)
        case hQ => exact fun _ _ _ h => h
        case hy => exact Or.inl ⟨by rfl, fun w' hSw => by (obtain ⟨s0, s1, s2, s3, s4, s5, s6⟩ := hSw; go_simp; try with_reducible rfl)⟩
        case hS => assumption
        case hC => assumption
        clear hC
        intro hC
        apply wpAnyZ_take (i := 1)
        case hi => rfl
        case hs => kernel_rfl
        case hf => kernel_rfl
        case hr => kernel_rfl
        case hu => kernel_rfl
        case hw => exact fun z h1 h2 => (by have h2 : z < 15 := h2; have h3 : z = 14 := (by omega); subst h3; exact ⟨[4, 5, 13], by kernel_rfl⟩)
        case hQ => exact fun _ _ _ h => h
        case hy => exact Or.inl ⟨by rfl, fun w' hSw => by (obtain ⟨s0, s1, s2, s3, s4, s5, s6⟩ := hSw; go_simp; try with_reducible rfl)⟩
        case hS => assumption
        case hC => assumption
        clear hC
        intro hC
        apply wpAnyZ_take (i := 2)
        case hi => rfl
        case hs => kernel_rfl
        case hf => kernel_rfl
        case hr => kernel_rfl
        case hu => kernel_rfl
        case hw => exact fun z h1 h2 => (by have h2 : z < 15 := h2; have h3 : z = 14 := (by omega); subst h3; exact ⟨[3, 4, 5, 13], by kernel_rfl⟩)
        case hQ => exact fun _ _ _ h => h
        case hy => exact Or.inl ⟨by rfl, fun w' hSw => by (obtain ⟨s0, s1, s2, s3, s4, s5, s6⟩ := hSw; go_simp; try with_reducible rfl)⟩
        case hS => assumption
        case hC => assumption
        clear hC
        intro hC
        apply wpAnyZ_take (i := 3)
        case hi => rfl
        case hs => kernel_rfl
        case hf => kernel_rfl
        case hr => kernel_rfl
        case hu => kernel_rfl
        case hw => exact fun z h1 h2 => (by have h2 : z < 15 := h2; have h3 : z = 14 := (by omega); subst h3; exact ⟨[4, 5, 13], by kernel_rfl⟩)
        case hQ => exact fun _ _ _ h => h
        case hy => exact Or.inl ⟨by rfl, fun w' hSw => by (obtain ⟨s0, s1, s2, s3, s4, s5, s6⟩ := hSw; go_simp; try with_reducible rfl)⟩
        case hS => assumption
        case hC => assumption
        clear hC
        intro hC
        apply wpAnyZ_take (i := 4)
        case hi => rfl
        case hs => kernel_rfl
        case hf => kernel_rfl
        case hr => kernel_rfl
        case hu => kernel_rfl
        case hw => exact fun z h1 h2 => (by have h2 : z < 15 := h2; have h3 : z = 14 := (by omega); subst h3; exact ⟨[5, 13], by kernel_rfl⟩)
        case hQ => exact fun _ _ _ h => h
        case hy => exact Or.inl ⟨by rfl, fun w' hSw => by (obtain ⟨s0, s1, s2, s3, s4, s5, s6⟩ := hSw; go_simp; try with_reducible rfl)⟩
        case hS => assumption
        case hC => assumption
        clear hC
        intro hC
        apply wpAnyZ_take (i := 5)
        case hi => rfl
        case hs => kernel_rfl
        case hf => kernel_rfl
        case hr => kernel_rfl
        case hu => kernel_rfl
        case hw => exact fun z h1 h2 => (by have h2 : z < 15 := h2; have h3 : z = 14 := (by omega); subst h3; exact ⟨[13], by kernel_rfl⟩)
        case hQ => exact fun _ _ _ h => h
        case hy => exact Or.inl ⟨by rfl, fun w' hSw => by (obtain ⟨s0, s1, s2, s3, s4, s5, s6⟩ := hSw; go_simp; try with_reducible rfl)⟩
        case hS => assumption
        case hC => assumption
        clear hC
        intro hC
        apply wpAnyZ_take (i := 6)
        case hi => rfl
        case hs => kernel_rfl
        case hf => kernel_rfl
        case hr => kernel_rfl
        case hu => kernel_rfl
        case hw => exact fun z h1 h2 => (by have h2 : z < 15 := h2; have h3 : z = 14 := (by omega); subst h3; exact ⟨[7, 9, 10], by kernel_rfl⟩)
        case hQ => exact fun _ _ _ h => h
        case hy => exact Or.inl ⟨by rfl, fun w' hSw => by (obtain ⟨s0, s1, s2, s3, s4, s5, s6⟩ := hSw; go_simp; try with_reducible rfl)⟩
        case hS => assumption
        case hC => assumption
        clear hC
        intro hC
        apply wpAnyZ_take (i := 7)
        case hi => rfl
        case hs => kernel_rfl
        case hf => kernel_rfl
        case hr => kernel_rfl
        case hu => kernel_rfl
        case hw => exact fun z h1 h2 => (by have h2 : z < 15 := h2; have h3 : z = 14 := (by omega); subst h3; exact ⟨[9, 10], by kernel_rfl⟩)
        case hQ => exact fun _ _ _ h => h
        case hy => exact Or.inl ⟨by rfl, fun w' hSw => by (obtain ⟨s0, s1, s2, s3, s4, s5, s6⟩ := hSw; go_simp; try with_reducible rfl)⟩
        case hS => assumption
        case hC => assumption
        clear hC
        intro hC
        apply wpAnyZ_take (i := 8)
        case hi => rfl
        case hs => kernel_rfl
        case hf => kernel_rfl
        case hr => kernel_rfl
        case hu => kernel_rfl
        case hw => exact fun z h1 h2 => (by have h2 : z < 15 := h2; have h3 : z = 14 := (by omega); subst h3; exact ⟨[9, 10], by kernel_rfl⟩)
        case hQ => exact fun _ _ _ h => h
        case hy => exact Or.inl ⟨by rfl, fun w' hSw => by (obtain ⟨s0, s1, s2, s3, s4, s5, s6⟩ := hSw; go_simp; try with_reducible rfl)⟩
        case hS => assumption
        case hC => assumption
        clear hC
        intro hC
        apply wpAnyZ_take (i := 9)
        case hi => rfl
        case hs => kernel_rfl
        case hf => kernel_rfl
        case hr => kernel_rfl
        case hu => kernel_rfl
        case hw => exact fun z h1 h2 => (by have h2 : z < 15 := h2; have h3 : z = 14 := (by omega); subst h3; exact ⟨[10], by kernel_rfl⟩)
        case hQ => exact fun _ _ _ h => h
        case hy => exact Or.inl ⟨by rfl, fun w' hSw => by (obtain ⟨s0, s1, s2, s3, s4, s5, s6⟩ := hSw; go_simp; try with_reducible rfl)⟩
        case hS => assumption
        case hC => assumption
        clear hC
        intro hC
        apply wpAnyZ_take (i := 10)
        case hi => rfl
        case hs => kernel_rfl
        case hf => kernel_rfl
        case hr => kernel_rfl
        case hu => kernel_rfl
        case hw => exact fun z h1 h2 => (by have h2 : z < 15 := h2; have h3 : z = 14 := (by omega); subst h3; exact ⟨[], by kernel_rfl⟩)
        case hQ => exact fun _ _ _ h => h
        case hy => exact Or.inl ⟨by rfl, fun w' hSw => by (obtain ⟨s0, s1, s2, s3, s4, s5, s6⟩ := hSw; go_simp; try with_reducible rfl)⟩
        case hS => assumption
        case hC => assumption
        clear hC
        intro hC
        clear hSS
        refine wpAnyZ_each (rs := [11, 12]) (by kernel_rfl) (by decide) ?_
        refine EachZ.cons (i := 11) rfl (fun K' hK => ?_) ?_
        · go_simp
          have hA := below1 wD (.cells #[.string { data := #[] }, .int .i64 0, .slice none 0 0] 39)
          have GA := heap_alloc_new wD (.cells #[.string { data := #[] }, .int .i64 0, .slice none 0 0] 39)
          have UA := below_next UD hA
          refine hK.out _ _ (fun _ => mvT.out _ UA) ?_
          clear hK
          have hlA : wD.heap.size < (wD.alloc (.cells #[.string { data := #[] }, .int .i64 0, .slice none 0 0] 39)).heap.size := by simp
          generalize hwA : wD.alloc (.cells #[.string { data := #[] }, .int .i64 0, .slice none 0 0] 39) = wA at *
          refine wpAnyZ_one (i := 12) (by kernel_rfl) rfl (fun K' hK => ?_)
          go_simp
          have hB := below1 wA (.cells #[.string { data := #[] }, .int .i64 0, .slice none 0 0] 39)
          have GB := heap_alloc_new wA (.cells #[.string { data := #[] }, .int .i64 0, .slice none 0 0] 39)
          have GA' := (hB.block _ (Array.getElem?_eq_some_iff.1 GA).1).trans GA
          have UB := below_next UA hB
          refine hK.out _ _ (fun _ => mvT.out _ UB) ?_
          clear hK
          have hlB : wA.heap.size < (wA.alloc (.cells #[.string { data := #[] }, .int .i64 0, .slice none 0 0] 39)).heap.size := by simp
          generalize hwB : wA.alloc (.cells #[.string { data := #[] }, .int .i64 0, .slice none 0 0] 39) = wB at *
          clear GA hwA hwB
          obtain ⟨I9, J9⟩ := store3I (t := wD.heap.size) GA' (.string y.s.name) (.int .i64 y.s.guest) (.slice y.A y.n y.c)
          have I10 := (J9.block _ (Array.getElem?_eq_some_iff.1 GB).1 (fun e => by injection e with e; omega)).trans GB
          have c0 := cell_of_row _ _ 0 _ _ _ GA'
          have c1 := cell_of_row _ _ 1 _ _ _ GA'
          have c2 := cell_of_row _ _ 2 _ _ _ GA'
          simp only [List.getElem?_toArray, List.getElem?_cons_zero, List.getElem?_cons_succ] at c0 c1 c2
          have d0 := frozen_of_row _ _ 0 _ _ GA'
          have d1 := frozen_of_row _ _ 1 _ _ GA'
          have d2 := frozen_of_row _ _ 2 _ _ GA'
          have UC : Below wq.heap.size wq _ := UB.grown J9 (by have := UB.size; omega) (fun i e => by injection e with e; have := UD.size; omega)
          refine wpAnyZ_one (i := 13) (by kernel_rfl) rfl (fun K' hK => ?_)
          go_simp
          refine hK.out _ _ (fun _ => mvT.out _ UC) ?_
          clear hK c0 c1 c2 d0 d1 d2
          have hlC := J9.size
          generalize (((wB.setCell ⟨wD.heap.size, 0, none⟩ (.string y.s.name)).setCell ⟨wD.heap.size, 1, none⟩ (.int .i64 y.s.guest)).setCell ⟨wD.heap.size, 2, none⟩ (.slice y.A y.n y.c)) = wC at *
          obtain ⟨H10, J10⟩ := store3I (t := wA.heap.size) I10 (.string x.s.name) (.int .i64 x.s.guest) (.slice x.A x.n x.c)
          have H9 := (J10.block _ (Array.getElem?_eq_some_iff.1 I9).1 (fun e => by injection e with e; omega)).trans I9
          have c0 := cell_of_row _ _ 0 _ _ _ I10
          have c1 := cell_of_row _ _ 1 _ _ _ I10
          have c2 := cell_of_row _ _ 2 _ _ _ I10
          simp only [List.getElem?_toArray, List.getElem?_cons_zero, List.getElem?_cons_succ] at c0 c1 c2
          have d0 := frozen_of_row _ _ 0 _ _ I10
          have d1 := frozen_of_row _ _ 1 _ _ I10
          have d2 := frozen_of_row _ _ 2 _ _ I10
          have UE : Below wq.heap.size wq _ := UC.grown J10 (by have := UC.size; omega) (fun i e => by injection e with e; have := UD.size; omega)
          refine wpAnyZ_one (i := 14) (by kernel_rfl) rfl (fun K' hK => ?_)
          go_simp
          refine hK.out _ _ (fun h => absurd h (by decide)) ?_
          clear hK c0 c1 c2 d0 d1 d2
          refine wpAnyZ_done (by kernel_rfl) ?_ _
          have hD9 : wq.heap.size ≤ wD.heap.size := by have := UD.size; omega
          generalize (((wC.setCell ⟨wA.heap.size, 0, none⟩ (.string x.s.name)).setCell ⟨wA.heap.size, 1, none⟩ (.int .i64 x.s.guest)).setCell ⟨wA.heap.size, 2, none⟩ (.slice x.A x.n x.c)) = wE at *
          clear I9 J9 I10 J10 UC UB UA hA hB GA' GB mvT hC
          have hgl := (HO.out.snaps.lt gs rfl).2
          try dsimp only at hgl
          have HO' := Lib.hid (HO.out.next UE)
          have HX' := Lib.hid (HXB.out.keep UE HE.out.ty.lt)
          have HE' := Lib.hid (HE.out.next UE)
          have HZ' := Lib.hid (HZ8.out.next UE)
          have HB' := Lib.hid (below_next HB8.out UE)
          have hbz' := Nat.le_trans hbz UE.size
          clear HO HXB HE HZ8 HB8 hbz z0 z1 z2 z3 z4 a0 a1 a2 b0 b1 b2 hcl
          have HO := HO'
          have HXB := HX'
          have HE := HE'
          have HZ8 := HZ'
          have HB8 := HB'
          have hbz := hbz'
          clear HO' HX' HE' HZ' HB' hbz'
          obtain ⟨z0, z1, z2, z3, z4⟩ := HXB.out
          dsimp only at z0 z1 z2 z3 z4
          have hcl : ∀ i, i < (pn2 + 1) * 3 → wE.cell? ⟨gs, i, none⟩ = (pl.flatMap PV.cells)[i]? := fun i hi => HO.out.snaps.cellAt i hi
          have a0 : wE.cell? ⟨gs, j * 3, none⟩ = some (.string y.s.name) := (hcl (j * 3) (by omega)).trans (flat3_at PV.cells PV.cells_len _ j y hy 0 (by omega))
          have a1 : wE.cell? ⟨gs, j * 3 + 1, none⟩ = some (.int .i64 y.s.guest) := (hcl (j * 3 + 1) (by omega)).trans (flat3_at PV.cells PV.cells_len _ j y hy 1 (by omega))
          have a2 : wE.cell? ⟨gs, j * 3 + 2, none⟩ = some (.slice y.A y.n y.c) := (hcl (j * 3 + 2) (by omega)).trans (flat3_at PV.cells PV.cells_len _ j y hy 2 (by omega))
          have r0 := HO.out.snaps.frozenAt (j * 3)
          have r1 := HO.out.snaps.frozenAt (j * 3 + 1)
          have r2 := HO.out.snaps.frozenAt (j * 3 + 2)
          have t0 := cell_of_row _ _ 0 _ _ _ H10
          have t1 := cell_of_row _ _ 1 _ _ _ H10
          have t2 := cell_of_row _ _ 2 _ _ _ H10
          simp only [List.getElem?_toArray, List.getElem?_cons_zero, List.getElem?_cons_succ] at t0 t1 t2
          have o0 := HO.out.snaps
          dsimp only at o0
          obtain ⟨o1, g1⟩ := o0.stored (j * 3) (.string x.s.name)
          obtain ⟨o2, g2⟩ := o1.stored (j * 3 + 1) (.int .i64 x.s.guest)
          obtain ⟨o3, g3⟩ := o2.stored (j * 3 + 2) (.slice x.A x.n x.c)
          rw [flat3_set3 PV.cells PV.cells_len pl j y x hy _ _ _ rfl] at o3
          have G16 := (g1.trans g2).trans g3
          have hbg : some bo ≠ some gs := fun e => (HE.out.ty.ne (own_block HO.out.snaps (b := gs) rfl) (by decide)) (by injection e)
          have H9' := (G16.block _ (Array.getElem?_eq_some_iff.1 H9).1 (fun e => by injection e with e; omega)).trans H9
          have X16 := HXB.out.kept G16 hbg
          have HO16 := Lib.hid o3
          clear o0 o1 g1 o2 g2 g3 o3
          go_upto_region 17 with fail
          clear z0 z1 z2 z3 z4 a0 a1 a2 r0 r1 r2 t0 t1 t2 hcl
          generalize (((wE.setCell ⟨gs, j * 3, none⟩ (.string x.s.name)).setCell ⟨gs, j * 3 + 1, none⟩ (.int .i64 x.s.guest)).setCell ⟨gs, j * 3 + 2, none⟩ (.slice x.A x.n x.c)) = wF at *
          obtain ⟨z0, z1, z2, z3, z4⟩ := X16
          dsimp only at z0 z1 z2 z3 z4
          have hxj : (pl.set j x)[j + 1]? = some x := by rw [List.getElem?_set_ne (by omega)]; exact hx
          have hcl : ∀ i, i < (pn2 + 1) * 3 → wF.cell? ⟨gs, i, none⟩ = ((pl.set j x).flatMap PV.cells)[i]? := fun i hi => HO16.out.cellAt i hi
          have b0 : wF.cell? ⟨gs, (j + 1) * 3, none⟩ = some (.string x.s.name) := (hcl ((j + 1) * 3) (by omega)).trans (flat3_at PV.cells PV.cells_len _ (j + 1) x hxj 0 (by omega))
          have r0 := HO16.out.frozenAt ((j + 1) * 3)
          have b1 : wF.cell? ⟨gs, (j + 1) * 3 + 1, none⟩ = some (.int .i64 x.s.guest) := (hcl ((j + 1) * 3 + 1) (by omega)).trans (flat3_at PV.cells PV.cells_len _ (j + 1) x hxj 1 (by omega))
          have r1 := HO16.out.frozenAt ((j + 1) * 3 + 1)
          have b2 : wF.cell? ⟨gs, (j + 1) * 3 + 2, none⟩ = some (.slice x.A x.n x.c) := (hcl ((j + 1) * 3 + 2) (by omega)).trans (flat3_at PV.cells PV.cells_len _ (j + 1) x hxj 2 (by omega))
          have r2 := HO16.out.frozenAt ((j + 1) * 3 + 2)
          have t0 := cell_of_row _ _ 0 _ _ _ H9'
          have t1 := cell_of_row _ _ 1 _ _ _ H9'
          have t2 := cell_of_row _ _ 2 _ _ _ H9'
          simp only [List.getElem?_toArray, List.getElem?_cons_zero, List.getElem?_cons_succ] at t0 t1 t2
          obtain ⟨o1, g1⟩ := HO16.out.stored ((j + 1) * 3) (.string y.s.name)
          obtain ⟨o2, g2⟩ := o1.stored ((j + 1) * 3 + 1) (.int .i64 y.s.guest)
          obtain ⟨o3, g3⟩ := o2.stored ((j + 1) * 3 + 2) (.slice y.A y.n y.c)
          rw [flat3_set3 PV.cells PV.cells_len (pl.set j x) (j + 1) x y hxj _ _ _ rfl] at o3
          have G17 := G16.trans ((g1.trans g2).trans g3)
          have OS := HO.out.swapSnap (k := j + 1) (by omega) hy hx o3 G17 (by omega) (by omega) hcm9
          have LSW : ((m.snaps.take (j + 1) ++ ⟨name, m.guest, m.root⟩ :: m.snaps.drop (j + 1)).set (j + 1 - 1) x.s).set (j + 1) y.s = m.snaps.take j ++ ⟨name, m.guest, m.root⟩ :: m.snaps.drop j := by rw [HXN.out]; exact swap_list hys ⟨name, m.guest, m.root⟩
          rw [LSW] at OS
          have HOS := Lib.hid OS
          have HXS := Lib.hid (HXB.out.kept G17 hbg)
          have HES := Lib.hid (HE.out.kept G17 hbg)
          have G18 : Below base wE _ := grown_below G17 hbz (fun i e => by injection e with e; omega)
          have HZS := Lib.hid (HZ8.out.nextB G18 HL2.out)
          have HBS := Lib.hid (HB8.out.trans (G18.mono HLB.out))
          have HSS := Lib.hid (Nat.le_trans hbz G18.size)
          clear o1 g1 o2 g2 g3 o3 G17 OS LSW G18 G16 H9' H9 H10 HO HXB HE HZ8 HB8 hbz HO16 UE
          go_wp2_with fail
          generalize (((wF.setCell ⟨gs, (j + 1) * 3, none⟩ (.string y.s.name)).setCell ⟨gs, (j + 1) * 3 + 1, none⟩ (.int .i64 y.s.guest)).setCell ⟨gs, (j + 1) * 3 + 2, none⟩ (.slice y.A y.n y.c)) = wG at *
          clear z0 z1 z2 z3 z4 b0 b1 b2 r0 r1 r2 t0 t1 t2 hcl
          go_roundw
          case rel => exact ⟨j, _, _, by go_num, by omega, by omega, HOS.out, HXS.out, HES.out, HZS.out, HBS.out, HSS.out⟩
          case measure => simp [intOf]
        refine EachZ.cons (i := 12) rfl (fun K' hK => ?_) ?_
        · go_simp
          have hA := below1 wD (.cells #[.string { data := #[] }, .int .i64 0, .slice none 0 0] 39)
          have GA := heap_alloc_new wD (.cells #[.string { data := #[] }, .int .i64 0, .slice none 0 0] 39)
          have UA := below_next UD hA
          refine hK.out _ _ (fun _ => mvT.out _ UA) ?_
          clear hK
          have hlA : wD.heap.size < (wD.alloc (.cells #[.string { data := #[] }, .int .i64 0, .slice none 0 0] 39)).heap.size := by simp
          generalize hwA : wD.alloc (.cells #[.string { data := #[] }, .int .i64 0, .slice none 0 0] 39) = wA at *
          refine wpAnyZ_one (i := 11) (by kernel_rfl) rfl (fun K' hK => ?_)
          go_simp
          have hB := below1 wA (.cells #[.string { data := #[] }, .int .i64 0, .slice none 0 0] 39)
          have GB := heap_alloc_new wA (.cells #[.string { data := #[] }, .int .i64 0, .slice none 0 0] 39)
          have GA' := (hB.block _ (Array.getElem?_eq_some_iff.1 GA).1).trans GA
          have UB := below_next UA hB
          refine hK.out _ _ (fun _ => mvT.out _ UB) ?_
          clear hK
          have hlB : wA.heap.size < (wA.alloc (.cells #[.string { data := #[] }, .int .i64 0, .slice none 0 0] 39)).heap.size := by simp
          generalize hwB : wA.alloc (.cells #[.string { data := #[] }, .int .i64 0, .slice none 0 0] 39) = wB at *
          clear GA hwA hwB
          obtain ⟨I9, J9⟩ := store3I (t := wA.heap.size) GB (.string y.s.name) (.int .i64 y.s.guest) (.slice y.A y.n y.c)
          have I10 := (J9.block _ (Array.getElem?_eq_some_iff.1 GA').1 (fun e => by injection e with e; omega)).trans GA'
          have c0 := cell_of_row _ _ 0 _ _ _ GB
          have c1 := cell_of_row _ _ 1 _ _ _ GB
          have c2 := cell_of_row _ _ 2 _ _ _ GB
          simp only [List.getElem?_toArray, List.getElem?_cons_zero, List.getElem?_cons_succ] at c0 c1 c2
          have d0 := frozen_of_row _ _ 0 _ _ GB
          have d1 := frozen_of_row _ _ 1 _ _ GB
          have d2 := frozen_of_row _ _ 2 _ _ GB
          have UC : Below wq.heap.size wq _ := UB.grown J9 (by have := UB.size; omega) (fun i e => by injection e with e; have := UD.size; omega)
          refine wpAnyZ_one (i := 13) (by kernel_rfl) rfl (fun K' hK => ?_)
          go_simp
          refine hK.out _ _ (fun _ => mvT.out _ UC) ?_
          clear hK c0 c1 c2 d0 d1 d2
          have hlC := J9.size
          generalize (((wB.setCell ⟨wA.heap.size, 0, none⟩ (.string y.s.name)).setCell ⟨wA.heap.size, 1, none⟩ (.int .i64 y.s.guest)).setCell ⟨wA.heap.size, 2, none⟩ (.slice y.A y.n y.c)) = wC at *
          obtain ⟨H10, J10⟩ := store3I (t := wD.heap.size) I10 (.string x.s.name) (.int .i64 x.s.guest) (.slice x.A x.n x.c)
          have H9 := (J10.block _ (Array.getElem?_eq_some_iff.1 I9).1 (fun e => by injection e with e; omega)).trans I9
          have c0 := cell_of_row _ _ 0 _ _ _ I10
          have c1 := cell_of_row _ _ 1 _ _ _ I10
          have c2 := cell_of_row _ _ 2 _ _ _ I10
          simp only [List.getElem?_toArray, List.getElem?_cons_zero, List.getElem?_cons_succ] at c0 c1 c2
          have d0 := frozen_of_row _ _ 0 _ _ I10
          have d1 := frozen_of_row _ _ 1 _ _ I10
          have d2 := frozen_of_row _ _ 2 _ _ I10
          have UE : Below wq.heap.size wq _ := UC.grown J10 (by have := UC.size; omega) (fun i e => by injection e with e; have := UD.size; omega)
          refine wpAnyZ_one (i := 14) (by kernel_rfl) rfl (fun K' hK => ?_)
          go_simp
          refine hK.out _ _ (fun h => absurd h (by decide)) ?_
          clear hK c0 c1 c2 d0 d1 d2
          refine wpAnyZ_done (by kernel_rfl) ?_ _
          have hD9 : wq.heap.size ≤ wA.heap.size := by have := UD.size; omega
          generalize (((wC.setCell ⟨wD.heap.size, 0, none⟩ (.string x.s.name)).setCell ⟨wD.heap.size, 1, none⟩ (.int .i64 x.s.guest)).setCell ⟨wD.heap.size, 2, none⟩ (.slice x.A x.n x.c)) = wE at *
          clear I9 J9 I10 J10 UC UB UA hA hB GA' GB mvT hC
          have hgl := (HO.out.snaps.lt gs rfl).2
          try dsimp only at hgl
          have HO' := Lib.hid (HO.out.next UE)
          have HX' := Lib.hid (HXB.out.keep UE HE.out.ty.lt)
          have HE' := Lib.hid (HE.out.next UE)
          have HZ' := Lib.hid (HZ8.out.next UE)
          have HB' := Lib.hid (below_next HB8.out UE)
          have hbz' := Nat.le_trans hbz UE.size
          clear HO HXB HE HZ8 HB8 hbz z0 z1 z2 z3 z4 a0 a1 a2 b0 b1 b2 hcl
          have HO := HO'
          have HXB := HX'
          have HE := HE'
          have HZ8 := HZ'
          have HB8 := HB'
          have hbz := hbz'
          clear HO' HX' HE' HZ' HB' hbz'
          obtain ⟨z0, z1, z2, z3, z4⟩ := HXB.out
          dsimp only at z0 z1 z2 z3 z4
          have hcl : ∀ i, i < (pn2 + 1) * 3 → wE.cell? ⟨gs, i, none⟩ = (pl.flatMap PV.cells)[i]? := fun i hi => HO.out.snaps.cellAt i hi
          have a0 : wE.cell? ⟨gs, j * 3, none⟩ = some (.string y.s.name) := (hcl (j * 3) (by omega)).trans (flat3_at PV.cells PV.cells_len _ j y hy 0 (by omega))
          have a1 : wE.cell? ⟨gs, j * 3 + 1, none⟩ = some (.int .i64 y.s.guest) := (hcl (j * 3 + 1) (by omega)).trans (flat3_at PV.cells PV.cells_len _ j y hy 1 (by omega))
          have a2 : wE.cell? ⟨gs, j * 3 + 2, none⟩ = some (.slice y.A y.n y.c) := (hcl (j * 3 + 2) (by omega)).trans (flat3_at PV.cells PV.cells_len _ j y hy 2 (by omega))
          have r0 := HO.out.snaps.frozenAt (j * 3)
          have r1 := HO.out.snaps.frozenAt (j * 3 + 1)
          have r2 := HO.out.snaps.frozenAt (j * 3 + 2)
          have t0 := cell_of_row _ _ 0 _ _ _ H10
          have t1 := cell_of_row _ _ 1 _ _ _ H10
          have t2 := cell_of_row _ _ 2 _ _ _ H10
          simp only [List.getElem?_toArray, List.getElem?_cons_zero, List.getElem?_cons_succ] at t0 t1 t2
          have o0 := HO.out.snaps
          dsimp only at o0
          obtain ⟨o1, g1⟩ := o0.stored (j * 3) (.string x.s.name)
          obtain ⟨o2, g2⟩ := o1.stored (j * 3 + 1) (.int .i64 x.s.guest)
          obtain ⟨o3, g3⟩ := o2.stored (j * 3 + 2) (.slice x.A x.n x.c)
          rw [flat3_set3 PV.cells PV.cells_len pl j y x hy _ _ _ rfl] at o3
          have G16 := (g1.trans g2).trans g3
          have hbg : some bo ≠ some gs := fun e => (HE.out.ty.ne (own_block HO.out.snaps (b := gs) rfl) (by decide)) (by injection e)
          have H9' := (G16.block _ (Array.getElem?_eq_some_iff.1 H9).1 (fun e => by injection e with e; omega)).trans H9
          have X16 := HXB.out.kept G16 hbg
          have HO16 := Lib.hid o3
          clear o0 o1 g1 o2 g2 g3 o3
          go_upto_region 17 with fail
          clear z0 z1 z2 z3 z4 a0 a1 a2 r0 r1 r2 t0 t1 t2 hcl
          generalize (((wE.setCell ⟨gs, j * 3, none⟩ (.string x.s.name)).setCell ⟨gs, j * 3 + 1, none⟩ (.int .i64 x.s.guest)).setCell ⟨gs, j * 3 + 2, none⟩ (.slice x.A x.n x.c)) = wF at *
          obtain ⟨z0, z1, z2, z3, z4⟩ := X16
          dsimp only at z0 z1 z2 z3 z4
          have hxj : (pl.set j x)[j + 1]? = some x := by rw [List.getElem?_set_ne (by omega)]; exact hx
          have hcl : ∀ i, i < (pn2 + 1) * 3 → wF.cell? ⟨gs, i, none⟩ = ((pl.set j x).flatMap PV.cells)[i]? := fun i hi => HO16.out.cellAt i hi
          have b0 : wF.cell? ⟨gs, (j + 1) * 3, none⟩ = some (.string x.s.name) := (hcl ((j + 1) * 3) (by omega)).trans (flat3_at PV.cells PV.cells_len _ (j + 1) x hxj 0 (by omega))
          have r0 := HO16.out.frozenAt ((j + 1) * 3)
          have b1 : wF.cell? ⟨gs, (j + 1) * 3 + 1, none⟩ = some (.int .i64 x.s.guest) := (hcl ((j + 1) * 3 + 1) (by omega)).trans (flat3_at PV.cells PV.cells_len _ (j + 1) x hxj 1 (by omega))
          have r1 := HO16.out.frozenAt ((j + 1) * 3 + 1)
          have b2 : wF.cell? ⟨gs, (j + 1) * 3 + 2, none⟩ = some (.slice x.A x.n x.c) := (hcl ((j + 1) * 3 + 2) (by omega)).trans (flat3_at PV.cells PV.cells_len _ (j + 1) x hxj 2 (by omega))
          have r2 := HO16.out.frozenAt ((j + 1) * 3 + 2)
          have t0 := cell_of_row _ _ 0 _ _ _ H9'
          have t1 := cell_of_row _ _ 1 _ _ _ H9'
          have t2 := cell_of_row _ _ 2 _ _ _ H9'
          simp only [List.getElem?_toArray, List.getElem?_cons_zero, List.getElem?_cons_succ] at t0 t1 t2
          obtain ⟨o1, g1⟩ := HO16.out.stored ((j + 1) * 3) (.string y.s.name)
          obtain ⟨o2, g2⟩ := o1.stored ((j + 1) * 3 + 1) (.int .i64 y.s.guest)
          obtain ⟨o3, g3⟩ := o2.stored ((j + 1) * 3 + 2) (.slice y.A y.n y.c)
          rw [flat3_set3 PV.cells PV.cells_len (pl.set j x) (j + 1) x y hxj _ _ _ rfl] at o3
          have G17 := G16.trans ((g1.trans g2).trans g3)
          have OS := HO.out.swapSnap (k := j + 1) (by omega) hy hx o3 G17 (by omega) (by omega) hcm9
          have LSW : ((m.snaps.take (j + 1) ++ ⟨name, m.guest, m.root⟩ :: m.snaps.drop (j + 1)).set (j + 1 - 1) x.s).set (j + 1) y.s = m.snaps.take j ++ ⟨name, m.guest, m.root⟩ :: m.snaps.drop j := by rw [HXN.out]; exact swap_list hys ⟨name, m.guest, m.root⟩
          rw [LSW] at OS
          have HOS := Lib.hid OS
          have HXS := Lib.hid (HXB.out.kept G17 hbg)
          have HES := Lib.hid (HE.out.kept G17 hbg)
          have G18 : Below base wE _ := grown_below G17 hbz (fun i e => by injection e with e; omega)
          have HZS := Lib.hid (HZ8.out.nextB G18 HL2.out)
          have HBS := Lib.hid (HB8.out.trans (G18.mono HLB.out))
          have HSS := Lib.hid (Nat.le_trans hbz G18.size)
          clear o1 g1 o2 g2 g3 o3 G17 OS LSW G18 G16 H9' H9 H10 HO HXB HE HZ8 HB8 hbz HO16 UE
          go_wp2_with fail
          generalize (((wF.setCell ⟨gs, (j + 1) * 3, none⟩ (.string y.s.name)).setCell ⟨gs, (j + 1) * 3 + 1, none⟩ (.int .i64 y.s.guest)).setCell ⟨gs, (j + 1) * 3 + 2, none⟩ (.slice y.A y.n y.c)) = wG at *
          clear z0 z1 z2 z3 z4 b0 b1 b2 r0 r1 r2 t0 t1 t2 hcl
          go_roundw
          case rel => exact ⟨j, _, _, by go_num, by omega, by omega, HOS.out, HXS.out, HES.out, HZS.out, HBS.out, HSS.out⟩
          case measure => simp [intOf]
        exact EachZ.nil
end Go.Proofs.YtfilnnjanhjbeaaGreat
