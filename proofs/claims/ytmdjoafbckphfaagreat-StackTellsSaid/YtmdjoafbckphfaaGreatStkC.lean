/- stack.Commit. Conditions: the stack is read below the heap's size. (Printed by gen_stkc.py.) -/
import Derived.Test.YtmdjoafbckphfaaGreatStkB
import Derived.Test.YtmdjoafbckphfaaGreatPureU
namespace Go.Proofs.YtmdjoafbckphfaaGreat
open Go.RowKit Sl
theorem commit_pages {s : Stk} (h : commitE s = 0) {g : Nat} (hg : s.top.guest = (g : Nat)) : commitV s = ⟨(List.range g).map (pageS s), freshI (g : Nat)⟩ ∧ g ≤ 16 ∧ (∀ k, k < g → readS s (k : Nat) = pageS s k ∧ (pageS s k).size = 4) := by
  have hV : commitV s = ⟨(List.range g).map (pageS s), freshI (g : Nat)⟩ := by unfold commitV; rw [if_pos h, hg, Int.toNat_natCast]
  obtain ⟨hc, _⟩ := commit_is h
  obtain ⟨_, m0⟩ := checkS_is hc
  have g16 := (own_facts m0).2.1
  refine ⟨hV, by omega, fun k hk => ⟨?_, ?_⟩⟩
  · unfold readS
    rw [if_pos (errS_ok hc (look_same m0 (by rw [hg]; omega))), Int.toNat_natCast]
  · have hb := (checkS_is (stk_commit h).1).1
    rw [hV] at hb
    have := page_of hb (k := k) (by simpa using hk)
    rw [List.getD_eq_getElem?_getD, List.getElem?_map, List.getElem?_range hk] at this
    exact this
set_option maxRecDepth 100000 in
set_option maxHeartbeats 2000000 in
theorem scommit_no (A : Option Addr) (n c : Nat) (l : List ByteArray) (v : IV) (m : Img) (w : World) (h : StkR w A n c v ⟨l, m⟩) (hp : checkS ⟨l, m⟩ ≠ 0) :
    Calls Tryz.prog 15 #[stkV A n c m v] w (StkOut noStk (checkS ⟨l, m⟩) w) := by
  have K1' := fun W (hb : Below w.heap.size w W) => stcheck_any A n c l v m W (h.next hb)
  obtain ⟨f1, f2, f3, f4⟩ := boxes2S w A n c m.guest v
  obtain ⟨rA, rn, rc, sA, sn, sc, fA, fn, fc, pA, pn, pc⟩ := v
  dsimp only [stkV, imgV] at *
  have K1 := Lib.hid (K1' _ f1)
  have hz : (checkS ⟨l, m⟩ != 0) = true := by simpa using hp
  generalize checkS ⟨l, m⟩ = er at *
  obtain ⟨x0, x1, x2, x3, x4, x5⟩ := f2
  dsimp only at x0 x1 x2 x3 x4 x5
  clear K1' h hp
  go_enter Tryz.func15, Tryz.ntmps15
  go_wp2_with fail
  generalize ((w.alloc (.cells #[.slice A n c, .int .i64 m.guest, .slice rA rn rc, .slice sA sn sc, .slice fA fn fc, .slice pA pn pc] 29)).alloc (.cells #[.slice none 0 0, .int .i64 0, .slice none 0 0, .slice none 0 0, .slice none 0 0, .slice none 0 0] 29)) = W2 at *
  refine K1.out.mono ?_
  rintro e w3 ⟨rfl, hb⟩
  have zs := f3.next hb
  have th := below_next f1 hb
  clear x0 x1 x2 x3 x4 x5 f1 f3 K1
  have O := outS (g := 0) zs (StkN.none_ _ w.heap.size) th (Nat.le_refl _) (by omega)
  dsimp only [noV] at O
  obtain ⟨⟨k0, k1, k2, k3, k4, k5⟩, hN, hB⟩ := O
  obtain ⟨y0, y1, y2, y3, y4, y5⟩ := zs.cells
  obtain ⟨q0, q1, q2, q3, q4, q5⟩ := zs.froz
  have HK := Lib.hid (And.intro k0 (And.intro k1 (And.intro k2 (And.intro k3 (And.intro k4 (And.intro k5 (And.intro hN hB)))))))
  clear zs th k0 k1 k2 k3 k4 k5 hN hB
  go_wp2_with fail
  obtain ⟨k0, k1, k2, k3, k4, k5, hN, hB⟩ := HK.out
  refine bodyPost_ret (v := .tuple #[stkV none 0 0 noImg noV, .int .i64 er]) ?_ rfl ⟨none, 0, 0, noV, rfl, hN.stkR, hB⟩
  simp [results, Tryz.results15, go_sem, stkV, noImg, noV, k0, k1, k2, k3, k4, k5]
set_option maxRecDepth 100000 in
set_option maxHeartbeats 2000000 in
theorem scommit_busy (A : Option Addr) (n c : Nat) (l : List ByteArray) (v : IV) (m : Img) (w : World) (h : StkR w A n c v ⟨l, m⟩) (hp : checkS ⟨l, m⟩ = 0) (hs : m.snaps.length ≠ 0) :
    Calls Tryz.prog 15 #[stkV A n c m v] w (StkOut noStk (8) w) := by
  have K1' := fun W (hb : Below w.heap.size w W) => stcheck_any A n c l v m W (h.next hb)
  have hpl := h.top.plen
  have hpc := h.top.pcap.1
  obtain ⟨f1, f2, f3, f4⟩ := boxes2S w A n c m.guest v
  obtain ⟨rA, rn, rc, sA, sn, sc, fA, fn, fc, pA, pn, pc⟩ := v
  dsimp only [stkV, imgV] at *
  rw [hp] at K1'
  have K1 := Lib.hid (K1' _ f1)
  have hpn : (0 : Int) < (pn : Int) := by omega
  obtain ⟨x0, x1, x2, x3, x4, x5⟩ := f2
  dsimp only at x0 x1 x2 x3 x4 x5
  clear K1' h hp hs hpl
  go_enter Tryz.func15, Tryz.ntmps15
  go_wp2_with fail
  generalize ((w.alloc (.cells #[.slice A n c, .int .i64 m.guest, .slice rA rn rc, .slice sA sn sc, .slice fA fn fc, .slice pA pn pc] 29)).alloc (.cells #[.slice none 0 0, .int .i64 0, .slice none 0 0, .slice none 0 0, .slice none 0 0, .slice none 0 0] 29)) = W2 at *
  refine K1.out.mono ?_
  rintro e w3 ⟨rfl, hb⟩
  have zs := f3.next hb
  have th := below_next f1 hb
  have X3 := BoxS.keep (v := ⟨rA, rn, rc, sA, sn, sc, fA, fn, fc, pA, pn, pc⟩) ⟨x0, x1, x2, x3, x4, x5⟩ hb (by omega)
  have l3 := hb.size
  clear x0 x1 x2 x3 x4 x5 f1 f3 K1 hb
  obtain ⟨x0, x1, x2, x3, x4, x5⟩ := X3
  dsimp only at x0 x1 x2 x3 x4 x5
  have O := outS (g := 0) zs (StkN.none_ _ w.heap.size) th (Nat.le_refl _) (by omega)
  dsimp only [noV] at O
  obtain ⟨⟨k0, k1, k2, k3, k4, k5⟩, hN, hB⟩ := O
  obtain ⟨y0, y1, y2, y3, y4, y5⟩ := zs.cells
  obtain ⟨q0, q1, q2, q3, q4, q5⟩ := zs.froz
  have HK := Lib.hid (And.intro k0 (And.intro k1 (And.intro k2 (And.intro k3 (And.intro k4 (And.intro k5 (And.intro hN hB)))))))
  clear zs th k0 k1 k2 k3 k4 k5 hN hB
  go_wp2_with fail
  obtain ⟨k0, k1, k2, k3, k4, k5, hN, hB⟩ := HK.out
  refine bodyPost_ret (v := .tuple #[stkV none 0 0 noImg noV, .int .i64 8]) ?_ rfl ⟨none, 0, 0, noV, rfl, hN.stkR, hB⟩
  simp [results, Tryz.results15, go_sem, stkV, noImg, noV, k0, k1, k2, k3, k4, k5]
set_option maxRecDepth 100000 in
set_option maxHeartbeats 2000000 in
theorem scommit_ok (A : Option Addr) (n c : Nat) (l : List ByteArray) (v : IV) (m : Img) (w : World) (h : StkR w A n c v ⟨l, m⟩) (hp : checkS ⟨l, m⟩ = 0) (hs : m.snaps.length = 0) :
    Calls Tryz.prog 15 #[stkV A n c m v] w (StkOut (commitV ⟨l, m⟩) 0 w) := by
  obtain ⟨i0, hi0, hz0, hz1, hz2⟩ := info_parts Tryz.infoStr
  have hce : commitE ⟨l, m⟩ = 0 := by unfold commitE; rw [if_pos hp]; exact if_pos hs
  obtain ⟨g, hg⟩ := Int.eq_ofNat_of_zero_le (own_facts (checkS_is hp).2).1
  dsimp only at hg
  obtain ⟨hV, g16, hpg⟩ := commit_pages hce hg
  have KF := Lib.hid (fun W => fresh_any (g : Nat) W (by omega) (by omega))
  have K2 := Lib.hid (fun (k : Nat) (hk : k < g) W (hb : Below w.heap.size w W) => (show Calls Tryz.prog 6 #[stkV A n c m v, .int .i64 (k : Nat)] W fun e w' => e = .returned (.tuple #[.string (pageS ⟨l, m⟩ k), .int .i64 0]) ∧ Below W.heap.size W w' from by
    have := sread_any A n c l v m (k : Nat) W (h.next hb)
    rw [(hpg k hk).1, errS_ok hp (look_same (checkS_is hp).2 (by dsimp only; omega))] at this
    exact this))
  rw [hV]
  have HS := Lib.hid (fun k hk => (hpg k hk).2)
  have HL := Lib.hid (fun k => (show (List.range (k + 1)).map (pageS ⟨l, m⟩) = (List.range k).map (pageS ⟨l, m⟩) ++ [pageS ⟨l, m⟩ k] from by rw [List.range_succ, List.map_append]; rfl))
  generalize pageS ⟨l, m⟩ = pg at *
  have K1' := fun W (hb : Below w.heap.size w W) => stcheck_any A n c l v m W (h.next hb)
  have hpl := h.top.plen
  have hpc := h.top.pcap.1
  rw [hp] at K1'
  clear hV hpg hce hp h
  have hmg : m.guest = (g : Nat) := hg
  rw [show stkV A n c m v = .agg #[.slice A n c, .int .i64 (g : Nat), .slice v.rA v.rn v.rc, .slice v.sA v.sn v.sc, .slice v.fA v.fn v.fc, .slice v.pA v.pn v.pc] from by unfold stkV; rw [hmg]] at *
  obtain ⟨f1, f2, f3, f4⟩ := boxes2S w A n c (g : Nat) v
  obtain ⟨rA, rn, rc, sA, sn, sc, fA, fn, fc, pA, pn, pc⟩ := v
  dsimp only [stkV, imgV] at *
  have K1 := Lib.hid (K1' _ f1)
  obtain rfl : pn = 0 := by omega
  obtain ⟨x0, x1, x2, x3, x4, x5⟩ := f2
  dsimp only at x0 x1 x2 x3 x4 x5
  clear K1' hs hpl hg hmg
  go_enter Tryz.func15, Tryz.ntmps15
  go_wp2_with fail
  generalize ((w.alloc (.cells #[.slice A n c, .int .i64 (g : Nat), .slice rA rn rc, .slice sA sn sc, .slice fA fn fc, .slice pA 0 pc] 29)).alloc (.cells #[.slice none 0 0, .int .i64 0, .slice none 0 0, .slice none 0 0, .slice none 0 0, .slice none 0 0] 29)) = W2 at *
  refine K1.out.mono ?_
  rintro e w3 ⟨rfl, hb⟩
  have zs := f3.next hb
  have th := below_next f1 hb
  have X3 := BoxS.keep (v := ⟨rA, rn, rc, sA, sn, sc, fA, fn, fc, pA, 0, pc⟩) ⟨x0, x1, x2, x3, x4, x5⟩ hb (by omega)
  have l3 := hb.size
  clear x0 x1 x2 x3 x4 x5 f1 f3 K1 hb
  obtain ⟨x0, x1, x2, x3, x4, x5⟩ := X3
  dsimp only at x0 x1 x2 x3 x4 x5
  have ZH := Lib.hid zs
  have TH := Lib.hid th
  clear zs
  go_wp2_with fail
  refine (KF.out _).mono ?_
  rintro e w5 ⟨⟨frA, frn, frc, fsA, fsn, fsc, ffA, ffn, ffc, fpA, fpn, fpc⟩, rfl, hF, hb⟩
  have l5 := hb.size
  have X5 := BoxS.keep (v := ⟨rA, rn, rc, sA, sn, sc, fA, fn, fc, pA, 0, pc⟩) ⟨x0, x1, x2, x3, x4, x5⟩ hb (by omega)
  have zs := ZH.out.next hb
  have th := below_next TH.out hb
  have b1 := below1 w5 (.cells #[.slice none 0 0, .int .i64 (g : Nat), .slice frA frn frc, .slice fsA fsn fsc, .slice ffA ffn ffc, .slice fpA fpn fpc] 29)
  have xb := BoxS.new w5 none 0 0 (g : Nat) ⟨frA, frn, frc, fsA, fsn, fsc, ffA, ffn, ffc, fpA, fpn, fpc⟩ 29
  have gb : BoxG (w5.alloc (.cells #[.slice none 0 0, .int .i64 (g : Nat), .slice frA frn frc, .slice fsA fsn fsc, .slice ffA ffn ffc, .slice fpA fpn fpc] 29)) w5.heap.size 29 := BoxG.new w5 _ 29
  have s6 : (w5.alloc (.cells #[.slice none 0 0, .int .i64 (g : Nat), .slice frA frn frc, .slice fsA fsn fsc, .slice ffA ffn ffc, .slice fpA fpn fpc] 29)).heap.size = w5.heap.size + 1 := World.size_alloc _ _
  have HX5 := Lib.hid X5
  have HZ5 := Lib.hid zs
  have HT5 := Lib.hid th
  have HF5 := Lib.hid (hF.mono (show w.heap.size ≤ w3.heap.size by omega))
  clear x0 x1 x2 x3 x4 x5 X5 zs th hb hF ZH TH KF
  dsimp only [imgV, freshI]
  obtain ⟨x0, x1, x2, x3, x4, x5⟩ := HX5.out.keep b1 (by omega)
  obtain ⟨y0, y1, y2, y3, y4, y5⟩ := xb
  dsimp only at x0 x1 x2 x3 x4 x5 y0 y1 y2 y3 y4 y5
  have xb : BoxS (w5.alloc (.cells #[.slice none 0 0, .int .i64 (g : Nat), .slice frA frn frc, .slice fsA fsn fsc, .slice ffA ffn ffc, .slice fpA fpn fpc] 29)) w5.heap.size none 0 0 (g : Nat) ⟨frA, frn, frc, fsA, fsn, fsc, ffA, ffn, ffc, fpA, fpn, fpc⟩ := ⟨y0, y1, y2, y3, y4, y5⟩
  have HXB := Lib.hid xb
  clear xb
  go_wp2_with fail
  generalize (w5.alloc (.cells #[.slice none 0 0, .int .i64 (g : Nat), .slice frA frn frc, .slice fsA fsn fsc, .slice ffA ffn ffc, .slice fpA fpn fpc] 29)) = W6 at *
  clear x0 x1 x2 x3 x4 x5 y0 y1 y2 y3 y4 y5
  go_loopw [29] (fun i wr => ∃ (k c' : Nat) (A' : Option Addr), k ≤ g ∧ i = .int .i64 k ∧ BoxS wr w5.heap.size A' k c' (g : Nat) ⟨frA, frn, frc, fsA, fsn, fsc, ffA, ffn, ffc, fpA, fpn, fpc⟩ ∧ BoxG wr w5.heap.size 29 ∧ wr.ownsRow w5.heap.size 9 1 (.slice A' k c') k (((List.range k).map pg).map Value.string) ∧ Below w5.heap.size w5 wr) (fun i _ => g - (intOf i).toNat)
  case atStart => exact ⟨0, 0, none, Nat.zero_le _, rfl, HXB.out, gb, World.ownsRow_nil _ _ _ _, b1⟩
  case round =>
    obtain ⟨k, c', A', hkg, rfl, hx, hB, ho, hbw⟩ := hrel
    have lr := hB.ty.lt
    have HO := Lib.hid ho
    have HXr := Lib.hid hx
    clear ho
    obtain ⟨x0, x1, x2, x3, x4, x5⟩ := HX5.out.keep hbw (by omega)
    obtain ⟨y0, y1, y2, y3, y4, y5⟩ := hx
    dsimp only at x0 x1 x2 x3 x4 x5 y0 y1 y2 y3 y4 y5
    by_cases hlt : k < g
    · have TR := below_next HT5.out hbw
      have KR := Lib.hid (K2.out k hlt _ TR)
      go_wp2_with fail
      refine KR.out.mono ?_
      rintro e w7 ⟨rfl, hb7⟩
      have l7 := hb7.size
      have hB7 := hB.next hb7
      obtain ⟨y0', y1', y2', y3', y4', y5'⟩ := HXr.out.keep hb7 lr
      dsimp only at y0' y1' y2' y3' y4' y5'
      have ho7 := own_below HO.out hb7
      have hsz : (w7.alloc (.cells #[.string (pg k)] 9)).heap.size = w7.heap.size + 1 := World.size_alloc _ _
      obtain ⟨A2, c2, w4, q1, q2, q3, q4, q5, q6, _⟩ := app_one (P := Tryz.prog) w7 w5.heap.size 22 22 9 i0 _ 1 16 Tryz.underlying22 hi0 hz0 hz1 hz2 rfl (by omega) _ _ _ ho7 #[.string (pg k)] rfl
        (by intro u hu; simp at hu; subst hu; rfl) (by omega) (by unfold maxLen; omega) (by omega)
      have hne : some w5.heap.size ≠ (Value.slice A' k c').ownBlock := by
        rcases own_far ho7 hB7.ty (by decide) with h1 | h1
        · rw [h1]; exact fun e => by cases e
        · exact fun e => h1 e.symm
      have hB8 := (hB7.next (below1 w7 (.cells #[.string (pg k)] 9))).kept q6 hne
      have X8 := ((HXr.out.keep hb7 lr).keep (below1 w7 (.cells #[.string (pg k)] 9)) hB7.ty.lt).kept q6 hne
      have fz := hB8.fz 0
      have HR := Lib.hid q1
      have HO2 := Lib.hid q2
      have hbw4 := (below_next hbw hb7).trans q3
      obtain ⟨z0, z1, z2, z3, z4, z5⟩ := X8
      dsimp only at z0 z1 z2 z3 z4 z5
      clear x0 x1 x2 x3 x4 x5 y0 y1 y2 y3 y4 y5 q1 q2 q3 q6 hb7 ho7 KR
      go_wp2_with (at_builtin; refine wpList_app rfl _ _ _ _ rfl rfl rfl rfl HR.out ?_)
      have hgs := grown_set w4 w5.heap.size 0 (.slice A2 (k + 1) c2)
      go_roundw
      case rel =>
        refine ⟨k + 1, c2, A2, by omega, by go_num, ?_, hB8.set _ _, ?_, hbw4.setCell (p := ⟨w5.heap.size, 0, none⟩) (Nat.le_refl _) _⟩
        · refine ⟨?_, ?_, ?_, ?_, ?_, ?_⟩ <;> go_simp
        · rw [HL.out, List.map_append]
          exact HO2.out.kept hgs (own_far HO2.out hB8.ty (by decide))
      case measure => simp [intOf]; omega
    · obtain rfl : k = g := by omega
      have hN : StkN wr w.heap.size A' k c' ⟨frA, frn, frc, fsA, fsn, fsc, ffA, ffn, ffc, fpA, fpn, fpc⟩ ⟨(List.range k).map pg, freshI (k : Nat)⟩ :=
        ⟨own_base HO.out (by omega), by simpa using g16, fun p hp => by
          obtain ⟨j, hj, rfl⟩ := List.mem_map.1 hp
          have := HS.out j (List.mem_range.1 hj)
          omega, HF5.out.next hbw⟩
      have zs := HZ5.out.nextB hbw (by omega)
      have O := outS (g := (k : Nat)) zs hN (below_next HT5.out hbw) (Nat.le_refl _) (by omega)
      dsimp only at O
      obtain ⟨⟨k0, k1, k2, k3, k4, k5⟩, hN', hBB⟩ := O
      obtain ⟨u0, u1, u2, u3, u4, u5⟩ := zs.cells
      obtain ⟨q0, q1, q2, q3, q4, q5⟩ := zs.froz
      have HK := Lib.hid (And.intro k0 (And.intro k1 (And.intro k2 (And.intro k3 (And.intro k4 (And.intro k5 (And.intro hN' hBB)))))))
      clear k0 k1 k2 k3 k4 k5 hN' hBB hN zs HO x0 x1 x2 x3 x4 x5
      go_wp2_with fail
      obtain ⟨k0, k1, k2, k3, k4, k5, hN, hBB⟩ := HK.out
      refine bodyPost_ret (v := .tuple #[stkV A' k c' (freshI (k : Nat)) ⟨frA, frn, frc, fsA, fsn, fsc, ffA, ffn, ffc, fpA, fpn, fpc⟩, .int .i64 0]) ?_ rfl ⟨_, _, _, _, rfl, hN.stkR, hBB⟩
      simp [results, Tryz.results15, go_sem, stkV, freshI, k0, k1, k2, k3, k4, k5]
theorem scommit_any (A : Option Addr) (n c : Nat) (l : List ByteArray) (v : IV) (m : Img) (w : World) (h : StkR w A n c v ⟨l, m⟩) :
    Calls Tryz.prog 15 #[stkV A n c m v] w (StkOut (commitV ⟨l, m⟩) (commitE ⟨l, m⟩) w) := by
  by_cases hp : checkS ⟨l, m⟩ = 0
  · by_cases hs : m.snaps.length = 0
    · have e1 : commitE ⟨l, m⟩ = 0 := by unfold commitE; rw [if_pos hp]; exact if_pos hs
      rw [e1]; exact scommit_ok A n c l v m w h hp hs
    · have e1 : commitE ⟨l, m⟩ = 8 := by unfold commitE; rw [if_pos hp]; exact if_neg hs
      have e2 : commitV ⟨l, m⟩ = noStk := by unfold commitV; rw [if_neg (by rw [e1]; decide)]
      rw [e1, e2]; exact scommit_busy A n c l v m w h hp hs
  · have e1 : commitE ⟨l, m⟩ = checkS ⟨l, m⟩ := by unfold commitE; rw [if_neg hp]
    have e2 : commitV ⟨l, m⟩ = noStk := by unfold commitV; rw [if_neg (by rw [e1]; exact hp)]
    rw [e1, e2]; exact scommit_no A n c l v m w h hp
end Go.Proofs.YtmdjoafbckphfaaGreat
