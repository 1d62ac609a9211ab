/- What Resize hands to turned. Conditions: the desk holds an image that is right. -/
import Derived.Test.YtpboapeoejdipaaWRes
import Derived.Test.YtpboapeoejdipaaEntry3
import Derived.Deep.RegionLaw
namespace Go.Proofs.Ytpboapeoejdipaa
open Go.RowKit Sl
theorem step_app {P : Program} {W : World} {ops : Array Oper} {o : Oper} {a : Act} {K : Act → World → Prop} {Q : Exit → Act → World → Prop} {E : Prop} (hgd : o.guard = none) (s x : Operand) (t tn ty : TypeId)
    (ho : o.op = .call { callee := .builtin .append, args := #[s, x], argTypes := #[t, tn] }) (hty : o.type = ty) {v y v' : Value} {w' : World} (hs : a.eval s = v) (hx : a.eval x = y)
    (hrun : (Builtin.append_ #[t, tn] ty #[v, y]).run P W = .ok v' w') (h : K (a.put o.dst v') w') :
    if Region.wanted o (yielded ops a.tmps) = true then Oper.wp P o a W K Q else E := by
  have hw : Region.wanted o (yielded ops a.tmps) = true := by simp [Region.wanted, hgd]
  rw [if_pos hw]
  subst hty
  unfold Oper.wp execOp
  simp only [ho, resolve, invoke, builtin, Sem.run_bind, Sem.run_pure, Result.andThen_ok, List.map_toArray, List.map_cons, List.map_nil, hs, hx, hrun]
  exact h
theorem cut_entries {t : List Int} (h : entriesErr t = 0) {n : Nat} (hn : n ≤ 4) : cutV t n = t.take n ++ List.replicate (4 - n) 0 ∧ cutE t n = 0 ∧ entriesErr (t.take n ++ List.replicate (4 - n) 0) = 0 := by
  obtain ⟨h1, h2⟩ := entriesErr_is h
  have hc : cutE t n = 0 := by unfold cutE; rw [if_pos h, if_pos (by omega)]
  refine ⟨by unfold cutV cutL; rw [if_pos hc, Int.toNat_natCast], hc, entriesErr_ok (by simp; omega) ?_⟩
  rw [List.all_eq_true] at h2 ⊢
  intro x hx
  rcases List.mem_append.1 hx with h3 | h3
  · exact h2 x (List.mem_of_mem_take h3)
  · rw [(List.mem_replicate.1 h3).2]; rfl
theorem putM_root {m x : Img} {k : Nat} {t : List Int} (h : putM m k t = some x) : x.root.length = m.root.length := by
  unfold putM at h
  split at h
  · injection h with h; rw [← h]
  · split at h
    · injection h with h; rw [← h]; simp
    · split at h
      · injection h with h; rw [← h]
      · split at h
        · cases h
        · injection h with h; rw [← h]; simp
theorem wants_nat (g : Nat) : wants (g : Int) = ((g + 3) / 4 : Nat) := by unfold wants; omega
/-- Resize's last steps. -/
def resized (x : Img) (g : Nat) : Img := { x with guest := g, root := (x.root ++ List.replicate 16 0).take ((g + 3) / 4) }
theorem resize_none {m : Img} {g : Nat} (hc : 0 < g % 4 ∧ g / 4 < m.root.length) (h : putM m (g / 4) ((entriesAt m (g / 4)).take (g % 4) ++ List.replicate (4 - g % 4) 0) = none) : resizeM m g = none := by
  unfold resizeM; rw [if_pos hc, h]; rfl
theorem resize_some {m x : Img} {g : Nat} (hc : 0 < g % 4 ∧ g / 4 < m.root.length) (h : putM m (g / 4) ((entriesAt m (g / 4)).take (g % 4) ++ List.replicate (4 - g % 4) 0) = some x) : resizeM m g = some (resized x g) := by
  unfold resizeM resized; rw [if_pos hc, h, wants_nat, Int.toNat_natCast]; rfl
theorem resize_skip {m : Img} {g : Nat} (hc : ¬ (0 < g % 4 ∧ g / 4 < m.root.length)) : resizeM m g = some (resized m g) := by
  unfold resizeM resized; rw [if_neg hc, wants_nat, Int.toNat_natCast]; rfl
set_option maxRecDepth 100000 in
set_option maxHeartbeats 1000000 in
theorem resizefn_any (base : Nat) (tg : Nat → Nat) (b : Nat) (v : IV) (q : List SV) (p : List PV) (m : Img) (gb g : Nat) (w : World) (h : DeskAt w base tg b v q p m) (hm : checkErr m = 0) (hg : g ≤ 16)
    (hgb : gb < base) (hcg : w.cell? ⟨gb, 0, none⟩ = some (.int .i64 g)) :
    Calls Try.prog 45 #[.pointer (some ⟨b, 0, none⟩), .pointer (some ⟨gb, 0, none⟩)] w (TurnRes base b (resizeM m g) w) := by
  have hI := h.own.imgR
  have hrl := hI.rlen
  have hbw : base ≤ w.heap.size := by have := h.ty.ty.lt; have := h.lo; omega
  have hr4 := (sound_of (check_is hm).1).cbd.root
  have hmod : ((g % 4 : Nat) : Int) = (g : Int) % 4 := by omega
  have hdiv : ((g / 4 : Nat) : Int) = (g : Int) / 4 := by omega
  have htm : (g : Int).tmod 4 = (g : Int) % 4 := Int.tmod_eq_emod_of_nonneg (by omega)
  have htd : (g : Int).tdiv 4 = (g : Int) / 4 := Int.tdiv_eq_ediv_of_nonneg (by omega)
  have KW' := fun w => wants_any (g : Int) w (by omega) (by omega)
  rw [wants_nat] at KW'
  have KW := Lib.hid KW'
  clear KW'
  by_cases hc : 0 < g % 4 ∧ g / 4 < m.root.length
  · have hef := entriesAt_fine hm hc.2
    have hkr : g / 4 < v.rn := by omega
    obtain ⟨hcv, hce, hcf⟩ := cut_entries hef (n := g % 4) (by omega)
    have K1' := fun W (hb : Below w.heap.size w W) => entries_any b v m (g / 4) W (hI.next hb) (h.box.keep hb h.ty.ty.lt) hkr (rootOk_of hm hc.2)
    have K2' := fun B A c W (ho : W.ownsRow B 3 1 (.slice A 4 c) 4 (ints (entriesAt m (g / 4)))) (h4 : 4 ≤ c) => ecut_any A 4 c (entriesAt m (g / 4)) ((g % 4 : Nat) : Int) W (Rd.of_own ho) h4 (by decide)
    have K3' := fun tg' A n c W (hd : DeskAt W base tg' b v q p m) (ht : TabO W base tg' 3 A n c ((entriesAt m (g / 4)).take (g % 4) ++ List.replicate (4 - g % 4) 0)) => put_any base tg' b v q p m (g / 4) _ A n c W hd hm hkr ht hcf
    rw [hcv, hce] at K2'
    rw [hmod] at K2'
    simp only [hdiv] at K1' K3'
    have HD := Lib.hid h
    have hl1 : (0 : Int) < (g : Int) % 4 := by omega
    have hl2 : (g : Int) / 4 < (v.rn : Int) := by omega
    have K1 := Lib.hid K1'
    have K2 := Lib.hid K2'
    have HLEN := Lib.hid (show ((entriesAt m (g / 4)).take (g % 4) ++ List.replicate (4 - g % 4) 0).length = 4 from (entriesErr_is hcf).1)
    obtain ⟨x0, x1, x2, x3, x4⟩ := h.box
    have HBd := Lib.hid (fun nq => below_drewN (Below.refl w.heap.size w) nq)
    cases ho : putM m (g / 4) ((entriesAt m (g / 4)).take (g % 4) ++ List.replicate (4 - g % 4) 0)
    · have R := Lib.hid (resize_none hc ho)
      rw [ho] at K3'
      have K3 := Lib.hid K3'
      clear h hI hm hrl hr4 hef hcv hce hcf K1' K2' K3' hmod hdiv hc hkr ho KW
      go_enter Try.func45, Try.ntmps45
      go_wp2_with fail
      go_quiet (fail)
      go_wp2_with fail
      refine (K1.out _ (HBd.out _)).mono ?_
      rintro e w5 ⟨A5, c5, rfl, ho5, hb5, hc5, hm5⟩
      have T5 : Below w.heap.size w w5 := below_next (HBd.out _) hb5
      go_wp2_with fail
      refine (K2.out _ _ _ _ ho5 hc5).mono ?_
      rintro e w6 ⟨A6, n6, c6, rfl, ho6, hb6, hc6, hm6⟩
      have T6 := below_next T5 hb6
      have hn6 : n6 = 4 := by have := (Rd.of_own ho6).len; rw [HLEN.out] at this; omega
      subst hn6
      obtain ⟨tg', hd6, ht6⟩ := HD.out.fresh T5 hb6 ho6 (by omega) hc6 hm6
      have K4 := Lib.hid (K3.out _ _ _ _ _ hd6 ht6)
      clear hd6 ht6 K3
      go_wp2_with fail
      refine K4.out.mono ?_
      rintro e w7 ⟨rfl, hb7⟩
      exact ⟨rfl, TurnRes.no R.out ((T6.mono hbw).trans hb7)⟩
    · rename_i x
      have R' := resize_some hc ho
      unfold resized at R'
      have R := Lib.hid R'
      clear R'
      have HXL := Lib.hid (show x.root.length ≤ 4 by rw [putM_root ho]; exact hr4)
      rw [ho] at K3'
      have K3 := Lib.hid K3'
      clear h hI hm hrl hr4 hef hcv hce hcf K1' K2' K3' hmod hdiv hc hkr ho
      go_enter Try.func45, Try.ntmps45
      go_wp2_with fail
      go_quiet (fail)
      go_wp2_with fail
      refine (K1.out _ (HBd.out _)).mono ?_
      rintro e w5 ⟨A5, c5, rfl, ho5, hb5, hc5, hm5⟩
      have T5 : Below w.heap.size w w5 := below_next (HBd.out _) hb5
      go_wp2_with fail
      refine (K2.out _ _ _ _ ho5 hc5).mono ?_
      rintro e w6 ⟨A6, n6, c6, rfl, ho6, hb6, hc6, hm6⟩
      have T6 := below_next T5 hb6
      have hn6 : n6 = 4 := by have := (Rd.of_own ho6).len; rw [HLEN.out] at this; omega
      subst hn6
      obtain ⟨tg', hd6, ht6⟩ := HD.out.fresh T5 hb6 ho6 (by omega) hc6 hm6
      have K4 := Lib.hid (K3.out _ _ _ _ _ hd6 ht6)
      clear hd6 ht6 K3
      go_wp2_with fail
      refine K4.out.mono ?_
      rintro e w7 ⟨rfl, ⟨tg7, v7, q7, p7, hd7⟩, hb7⟩
      have HD1 := Lib.hid hd7
      have HT1 := Lib.hid ((T6.mono hbw).trans hb7)
      clear hd7 K1 K2 K4 HD x0 x1 x2 x3 x4 T5 T6 ho5 ho6 hb5 hb6 hb7
      have hvn : v7.rn ≤ 4 := by have := HD1.out.own.imgR.rlen; have := HXL.out; omega
      have hcg1 := (HT1.out.cell (p := ⟨gb, 0, none⟩) hgb).trans hcg
      obtain ⟨y0, y1, y2, y3, y4⟩ := HD1.out.box
      have f0 := HD1.out.ty.fz 0
      have hd2 := HD1.out.setGuest (g : Nat)
      have hT2 : Below base w (w7.setCell ⟨b, 0, none⟩ (.int .i64 (g : Nat))) := HT1.out.setCell (p := ⟨b, 0, none⟩) HD1.out.lo _
      go_wp2_with fail
      generalize w7.setCell ⟨b, 0, none⟩ (.int .i64 (g : Nat)) = w2 at *
      have hcg2 : w2.drew.cell? ⟨gb, 0, none⟩ = some (.int .i64 (g : Nat)) := (hT2.drew.cell (p := ⟨gb, 0, none⟩) hgb).trans hcg
      clear y0 y1 y2 y3 y4 f0 hcg1
      obtain ⟨y0, y1, y2, y3, y4⟩ := (hd2.next (Below.refl _ _).drew).box
      obtain ⟨g3, c3, w3, r1, r2, r3, hbx, hB, hgr, hbg, hbb, hk⟩ := (hd2.next (Below.refl _ _).drew).regrow (by omega)
      obtain ⟨tg', hd3⟩ := hk ((g + 3) / 4) (by omega)
      obtain ⟨z0, z1, z2, z3, z4⟩ := hbx
      have f1 := hB.fz 1
      have HR := Lib.hid r1
      have HD3 := Lib.hid hd3
      have HT3 := Lib.hid ((hT2.drew.trans hbb).setCell (p := ⟨b, 1, none⟩) HD1.out.lo (.slice (some ⟨g3, 0, none⟩) ((g + 3) / 4) c3))
      have hcg3 := (hbb.cell (p := ⟨gb, 0, none⟩) hgb).trans hcg2
      have e0 : (0 : Int) ≤ (((g + 3) / 4 : Nat) : Int) := by omega
      have e1 : (((g + 3) / 4 : Nat) : Int) ≤ (c3 : Int) := by omega
      clear r1 hd3 hd2 hk hgr hbb hT2
      generalize (g + 3) / 4 = kk at *
      go_region_law (first | (refine step_app rfl _ _ _ _ _ rfl rfl rfl rfl HR.out ?_) | (go_simp; go_at_call 48; refine (KW.out _).mono ?_; rintro e w' ⟨rfl, rfl⟩))
      all_goals go_wp2_with fail
      all_goals go_end0
      all_goals exact TurnRes.yes R.out HD3.out HT3.out
  · have R' := resize_skip hc
    unfold resized at R'
    have R := Lib.hid R'
    clear R'
    have HXL := Lib.hid hr4
    have HD := Lib.hid h
    obtain ⟨x0, x1, x2, x3, x4⟩ := h.box
    by_cases hz : 0 < g % 4
    · have hl1 : (0 : Int) < (g : Int) % 4 := by omega
      have hl2 : (v.rn : Int) ≤ (g : Int) / 4 := by omega
      have HDq := Lib.hid (fun nq => h.next (below_drewN (Below.refl w.heap.size w) nq))
      have HTq := Lib.hid (fun nq => below_drewN (Below.refl base w) nq)
      clear h hI hm hrl hr4 hmod hdiv hc
      go_enter Try.func45, Try.ntmps45
      go_wp2_with fail
      go_quiet (fail)
      have HD1 := Lib.hid (HDq.out nq)
      have HT1 := Lib.hid (HTq.out nq)
      clear x0 x1 x2 x3 x4
      generalize w.drewN nq = w7 at *
      have hvn : v.rn ≤ 4 := by have := HD1.out.own.imgR.rlen; have := HXL.out; omega
      have hcg1 := (HT1.out.cell (p := ⟨gb, 0, none⟩) hgb).trans hcg
      obtain ⟨y0, y1, y2, y3, y4⟩ := HD1.out.box
      have f0 := HD1.out.ty.fz 0
      have hd2 := HD1.out.setGuest (g : Nat)
      have hT2 : Below base w (w7.setCell ⟨b, 0, none⟩ (.int .i64 (g : Nat))) := HT1.out.setCell (p := ⟨b, 0, none⟩) HD1.out.lo _
      go_wp2_with fail
      generalize w7.setCell ⟨b, 0, none⟩ (.int .i64 (g : Nat)) = w2 at *
      have hcg2 : w2.drew.cell? ⟨gb, 0, none⟩ = some (.int .i64 (g : Nat)) := (hT2.drew.cell (p := ⟨gb, 0, none⟩) hgb).trans hcg
      clear y0 y1 y2 y3 y4 f0 hcg1
      obtain ⟨y0, y1, y2, y3, y4⟩ := (hd2.next (Below.refl _ _).drew).box
      obtain ⟨g3, c3, w3, r1, r2, r3, hbx, hB, hgr, hbg, hbb, hk⟩ := (hd2.next (Below.refl _ _).drew).regrow (by omega)
      obtain ⟨tg', hd3⟩ := hk ((g + 3) / 4) (by omega)
      obtain ⟨z0, z1, z2, z3, z4⟩ := hbx
      have f1 := hB.fz 1
      have HR := Lib.hid r1
      have HD3 := Lib.hid hd3
      have HT3 := Lib.hid ((hT2.drew.trans hbb).setCell (p := ⟨b, 1, none⟩) HD1.out.lo (.slice (some ⟨g3, 0, none⟩) ((g + 3) / 4) c3))
      have hcg3 := (hbb.cell (p := ⟨gb, 0, none⟩) hgb).trans hcg2
      have e0 : (0 : Int) ≤ (((g + 3) / 4 : Nat) : Int) := by omega
      have e1 : (((g + 3) / 4 : Nat) : Int) ≤ (c3 : Int) := by omega
      clear r1 hd3 hd2 hk hgr hbb hT2
      generalize (g + 3) / 4 = kk at *
      go_region_law (first | (refine step_app rfl _ _ _ _ _ rfl rfl rfl rfl HR.out ?_) | (go_simp; go_at_call 48; refine (KW.out _).mono ?_; rintro e w' ⟨rfl, rfl⟩))
      all_goals go_wp2_with fail
      all_goals go_end0
      all_goals exact TurnRes.yes R.out HD3.out HT3.out
    · have hl1 : (g : Int) % 4 ≤ (0 : Int) := by omega
      have HDq := Lib.hid (fun nq => h.next (below_drewN (Below.refl w.heap.size w) nq))
      have HTq := Lib.hid (fun nq => below_drewN (Below.refl base w) nq)
      clear h hI hm hrl hr4 hmod hdiv hc
      go_enter Try.func45, Try.ntmps45
      go_wp2_with fail
      go_quiet (fail)
      have HD1 := Lib.hid (HDq.out nq)
      have HT1 := Lib.hid (HTq.out nq)
      clear x0 x1 x2 x3 x4
      generalize w.drewN nq = w7 at *
      have hvn : v.rn ≤ 4 := by have := HD1.out.own.imgR.rlen; have := HXL.out; omega
      have hcg1 := (HT1.out.cell (p := ⟨gb, 0, none⟩) hgb).trans hcg
      obtain ⟨y0, y1, y2, y3, y4⟩ := HD1.out.box
      have f0 := HD1.out.ty.fz 0
      have hd2 := HD1.out.setGuest (g : Nat)
      have hT2 : Below base w (w7.setCell ⟨b, 0, none⟩ (.int .i64 (g : Nat))) := HT1.out.setCell (p := ⟨b, 0, none⟩) HD1.out.lo _
      go_wp2_with fail
      generalize w7.setCell ⟨b, 0, none⟩ (.int .i64 (g : Nat)) = w2 at *
      have hcg2 : w2.drew.cell? ⟨gb, 0, none⟩ = some (.int .i64 (g : Nat)) := (hT2.drew.cell (p := ⟨gb, 0, none⟩) hgb).trans hcg
      clear y0 y1 y2 y3 y4 f0 hcg1
      obtain ⟨y0, y1, y2, y3, y4⟩ := (hd2.next (Below.refl _ _).drew).box
      obtain ⟨g3, c3, w3, r1, r2, r3, hbx, hB, hgr, hbg, hbb, hk⟩ := (hd2.next (Below.refl _ _).drew).regrow (by omega)
      obtain ⟨tg', hd3⟩ := hk ((g + 3) / 4) (by omega)
      obtain ⟨z0, z1, z2, z3, z4⟩ := hbx
      have f1 := hB.fz 1
      have HR := Lib.hid r1
      have HD3 := Lib.hid hd3
      have HT3 := Lib.hid ((hT2.drew.trans hbb).setCell (p := ⟨b, 1, none⟩) HD1.out.lo (.slice (some ⟨g3, 0, none⟩) ((g + 3) / 4) c3))
      have hcg3 := (hbb.cell (p := ⟨gb, 0, none⟩) hgb).trans hcg2
      have e0 : (0 : Int) ≤ (((g + 3) / 4 : Nat) : Int) := by omega
      have e1 : (((g + 3) / 4 : Nat) : Int) ≤ (c3 : Int) := by omega
      clear r1 hd3 hd2 hk hgr hbb hT2
      generalize (g + 3) / 4 = kk at *
      go_region_law (first | (refine step_app rfl _ _ _ _ _ rfl rfl rfl rfl HR.out ?_) | (go_simp; go_at_call 48; refine (KW.out _).mono ?_; rintro e w' ⟨rfl, rfl⟩))
      all_goals go_wp2_with fail
      all_goals go_end0
      all_goals exact TurnRes.yes R.out HD3.out HT3.out
end Go.Proofs.Ytpboapeoejdipaa
