/- The reference's StackRead, StackWrite, CommitOf. Conditions: the stack is read below the heap's size. (Printed by gen_stke.py.) -/
import Derived.Test.YtmdjoafbckphfaaGreatStkC
import Derived.Test.YtmdjoafbckphfaaGreatRWritesC
namespace Go.Proofs.YtmdjoafbckphfaaGreat
open Go.RowKit Sl
set_option maxRecDepth 100000 in
set_option maxHeartbeats 2000000 in
theorem rsread_base (A : Option Addr) (n c : Nat) (l : List ByteArray) (v : IV) (m : Img) (k : Nat) (w : World) (h : StkR w A n c v ⟨l, m⟩) (hm : checkErr m = 0) (hk : (k : Int) < m.guest) (he : entryOf m.slots m.root k = 0) (hkl : k < l.length) :
    Calls Tryz.prog 9 #[stkV A n c m v, .int .i64 (k : Nat)] w fun e w' => e = .returned (.string (pageS ⟨l, m⟩ k)) ∧ Below w.heap.size w w' := by
  have K1' := fun W (hb : Below w.heap.size w W) => rlookOf_any v m k W (h.next hb).top (entOk_own hm hk)
  have K2' := fun W (hb : Below w.heap.size w W) => rreadOf_any v m k W (h.next hb).top (entOk_own hm hk) (entry_ok hm m.root k)
  have hln := h.base.len
  have hcap := h.cap
  have HR := Lib.hid h
  have RE := Lib.hid (show pageS ⟨l, m⟩ k = l.getD k noP from if_pos ⟨he, hkl⟩)
  rw [he] at K1'
  rw [hln] at hkl
  have HKL := Lib.hid hkl
  clear he
  obtain ⟨rA, rn, rc, sA, sn, sc, fA, fn, fc, pA, pn, pc⟩ := v
  dsimp only [stkV, imgV] at *
  have T1 := below1 w (.cells #[.slice A n c, .int .i64 m.guest, .slice rA rn rc, .slice sA sn sc, .slice fA fn fc, .slice pA pn pc] 29)
  have X1 := BoxS.new w A n c m.guest ⟨rA, rn, rc, sA, sn, sc, fA, fn, fc, pA, pn, pc⟩ 29
  have l1 : w.heap.size < (w.alloc (.cells #[.slice A n c, .int .i64 m.guest, .slice rA rn rc, .slice sA sn sc, .slice fA fn fc, .slice pA pn pc] 29)).heap.size := by simp
  have K1 := Lib.hid K1'
  have K2 := Lib.hid K2'
  have L1 := Lib.hid l1
  have XX := Lib.hid X1
  obtain ⟨x0, x1, x2, x3, x4, x5⟩ := X1
  dsimp only at x0 x1 x2 x3 x4 x5
  clear K1' K2' h hm hk l1
  go_enter Tryz.func9, Tryz.ntmps9
  go_wp2_with fail
  generalize w.alloc (.cells #[.slice A n c, .int .i64 m.guest, .slice rA rn rc, .slice sA sn sc, .slice fA fn fc, .slice pA pn pc] 29) = W2 at *
  refine (K1.out _ T1).mono ?_
  rintro e w3 ⟨rfl, hb⟩
  have T2 := below_next T1 hb
  clear x0 x1 x2 x3 x4 x5
  obtain ⟨x0, x1, x2, x3, x4, x5⟩ := XX.out.keep hb L1.out
  dsimp only at x0 x1 x2 x3 x4 x5
  have HR2 := Lib.hid (HR.out.next T2)
  obtain ⟨b, o, s, rfl, hbl, hls, hcs, hsz⟩ := HR2.out.base.at_ HKL.out
  have HG := Lib.hid (show pageS ⟨l, m⟩ k = s from by rw [RE.out, List.getD_eq_getElem?_getD, hls]; rfl)
  have e0 : (0 : Int) ≤ (k : Int) := by omega
  have e1 : (k : Int) < (n : Int) := by have := HKL.out; omega
  clear hls
  go_wp2_with fail
  go_ret
  exact ⟨ret_str HG.out, T2⟩
set_option maxRecDepth 100000 in
set_option maxHeartbeats 2000000 in
theorem rsread_past (A : Option Addr) (n c : Nat) (l : List ByteArray) (v : IV) (m : Img) (k : Nat) (w : World) (h : StkR w A n c v ⟨l, m⟩) (hm : checkErr m = 0) (hk : (k : Int) < m.guest) (he : entryOf m.slots m.root k = 0) (hkl : ¬ k < l.length) :
    Calls Tryz.prog 9 #[stkV A n c m v, .int .i64 (k : Nat)] w fun e w' => e = .returned (.string (pageS ⟨l, m⟩ k)) ∧ Below w.heap.size w w' := by
  have K1' := fun W (hb : Below w.heap.size w W) => rlookOf_any v m k W (h.next hb).top (entOk_own hm hk)
  have K2' := fun W (hb : Below w.heap.size w W) => rreadOf_any v m k W (h.next hb).top (entOk_own hm hk) (entry_ok hm m.root k)
  have hln := h.base.len
  have hcap := h.cap
  have HR := Lib.hid h
  have RE := Lib.hid (show pageS ⟨l, m⟩ k = pageV m.slots (entryOf m.slots m.root k) from if_neg (fun hh => hkl hh.2))
  have HE := Lib.hid he
  rw [he] at K1'
  rw [hln] at hkl
  clear he
  obtain ⟨rA, rn, rc, sA, sn, sc, fA, fn, fc, pA, pn, pc⟩ := v
  dsimp only [stkV, imgV] at *
  have T1 := below1 w (.cells #[.slice A n c, .int .i64 m.guest, .slice rA rn rc, .slice sA sn sc, .slice fA fn fc, .slice pA pn pc] 29)
  have X1 := BoxS.new w A n c m.guest ⟨rA, rn, rc, sA, sn, sc, fA, fn, fc, pA, pn, pc⟩ 29
  have l1 : w.heap.size < (w.alloc (.cells #[.slice A n c, .int .i64 m.guest, .slice rA rn rc, .slice sA sn sc, .slice fA fn fc, .slice pA pn pc] 29)).heap.size := by simp
  have K1 := Lib.hid K1'
  have K2 := Lib.hid K2'
  have L1 := Lib.hid l1
  have XX := Lib.hid X1
  obtain ⟨x0, x1, x2, x3, x4, x5⟩ := X1
  dsimp only at x0 x1 x2 x3 x4 x5
  clear K1' K2' h hm hk l1
  go_enter Tryz.func9, Tryz.ntmps9
  go_wp2_with fail
  generalize w.alloc (.cells #[.slice A n c, .int .i64 m.guest, .slice rA rn rc, .slice sA sn sc, .slice fA fn fc, .slice pA pn pc] 29) = W2 at *
  refine (K1.out _ T1).mono ?_
  rintro e w3 ⟨rfl, hb⟩
  have T2 := below_next T1 hb
  clear x0 x1 x2 x3 x4 x5
  obtain ⟨x0, x1, x2, x3, x4, x5⟩ := XX.out.keep hb L1.out
  dsimp only at x0 x1 x2 x3 x4 x5
  have HR2 := Lib.hid (HR.out.next T2)
  have e1 : ¬ ((k : Int) < (n : Int)) := by omega
  go_wp2_with fail
  refine (K2.out _ T2).mono ?_
  rintro e w4 ⟨rfl, hb4⟩
  go_wp2_with fail
  go_ret
  exact ⟨ret_str RE.out, below_next T2 hb4⟩
set_option maxRecDepth 100000 in
set_option maxHeartbeats 2000000 in
theorem rsread_top (A : Option Addr) (n c : Nat) (l : List ByteArray) (v : IV) (m : Img) (k : Nat) (w : World) (h : StkR w A n c v ⟨l, m⟩) (hm : checkErr m = 0) (hk : (k : Int) < m.guest) (he : entryOf m.slots m.root k ≠ 0) :
    Calls Tryz.prog 9 #[stkV A n c m v, .int .i64 (k : Nat)] w fun e w' => e = .returned (.string (pageS ⟨l, m⟩ k)) ∧ Below w.heap.size w w' := by
  have K1' := fun W (hb : Below w.heap.size w W) => rlookOf_any v m k W (h.next hb).top (entOk_own hm hk)
  have K2' := fun W (hb : Below w.heap.size w W) => rreadOf_any v m k W (h.next hb).top (entOk_own hm hk) (entry_ok hm m.root k)
  have hln := h.base.len
  have hcap := h.cap
  have HR := Lib.hid h
  have RE := Lib.hid (show pageS ⟨l, m⟩ k = pageV m.slots (entryOf m.slots m.root k) from if_neg (fun hh => he hh.1))
  have hz : (entryOf m.slots m.root k == 0) = false := by simpa using he
  clear he
  generalize entryOf m.slots m.root k = en at *
  obtain ⟨rA, rn, rc, sA, sn, sc, fA, fn, fc, pA, pn, pc⟩ := v
  dsimp only [stkV, imgV] at *
  have T1 := below1 w (.cells #[.slice A n c, .int .i64 m.guest, .slice rA rn rc, .slice sA sn sc, .slice fA fn fc, .slice pA pn pc] 29)
  have X1 := BoxS.new w A n c m.guest ⟨rA, rn, rc, sA, sn, sc, fA, fn, fc, pA, pn, pc⟩ 29
  have l1 : w.heap.size < (w.alloc (.cells #[.slice A n c, .int .i64 m.guest, .slice rA rn rc, .slice sA sn sc, .slice fA fn fc, .slice pA pn pc] 29)).heap.size := by simp
  have K1 := Lib.hid K1'
  have K2 := Lib.hid K2'
  have L1 := Lib.hid l1
  have XX := Lib.hid X1
  obtain ⟨x0, x1, x2, x3, x4, x5⟩ := X1
  dsimp only at x0 x1 x2 x3 x4 x5
  clear K1' K2' h hm hk l1
  go_enter Tryz.func9, Tryz.ntmps9
  go_wp2_with fail
  generalize w.alloc (.cells #[.slice A n c, .int .i64 m.guest, .slice rA rn rc, .slice sA sn sc, .slice fA fn fc, .slice pA pn pc] 29) = W2 at *
  refine (K1.out _ T1).mono ?_
  rintro e w3 ⟨rfl, hb⟩
  have T2 := below_next T1 hb
  clear x0 x1 x2 x3 x4 x5
  obtain ⟨x0, x1, x2, x3, x4, x5⟩ := XX.out.keep hb L1.out
  dsimp only at x0 x1 x2 x3 x4 x5
  have HR2 := Lib.hid (HR.out.next T2)
  go_wp2_with fail
  refine (K2.out _ T2).mono ?_
  rintro e w4 ⟨rfl, hb4⟩
  go_wp2_with fail
  go_ret
  exact ⟨ret_str RE.out, below_next T2 hb4⟩
theorem rsread_any (A : Option Addr) (n c : Nat) (l : List ByteArray) (v : IV) (m : Img) (k : Nat) (w : World) (h : StkR w A n c v ⟨l, m⟩) (hm : checkErr m = 0) (hk : (k : Int) < m.guest) :
    Calls Tryz.prog 9 #[stkV A n c m v, .int .i64 (k : Nat)] w fun e w' => e = .returned (.string (pageS ⟨l, m⟩ k)) ∧ Below w.heap.size w w' := by
  by_cases he : entryOf m.slots m.root k = 0
  · by_cases hkl : k < l.length
    · exact rsread_base A n c l v m k w h hm hk he hkl
    · exact rsread_past A n c l v m k w h hm hk he hkl
  · exact rsread_top A n c l v m k w h hm hk he
set_option maxRecDepth 100000 in
set_option maxHeartbeats 2000000 in
theorem rswrite_no (A : Option Addr) (n c : Nat) (l : List ByteArray) (v : IV) (m : Img) (x : Int) (pg : ByteArray) (w : World) (h : StkR w A n c v ⟨l, m⟩) (hp : checkS ⟨l, m⟩ ≠ 0) :
    Calls Tryz.prog 10 #[stkV A n c m v, .int .i64 x, .string pg] w (StkOut noStk (checkS ⟨l, m⟩) w) := by
  have K1' := fun W (hb : Below w.heap.size w W) => rstcheck_any A n c l v m W (h.next hb)
  obtain ⟨f1, f2, f3, f4⟩ := boxes2S w A n c m.guest v
  obtain ⟨rA, rn, rc, sA, sn, sc, fA, fn, fc, pA, pn, pc⟩ := v
  dsimp only [stkV, imgV] at *
  have K1 := Lib.hid (K1' _ f1)
  have hz : (checkS ⟨l, m⟩ != 0) = true := by simpa using hp
  generalize checkS ⟨l, m⟩ = er at *
  obtain ⟨x0, x1, x2, x3, x4, x5⟩ := f2
  dsimp only at x0 x1 x2 x3 x4 x5
  clear K1' h hp
  go_enter Tryz.func10, Tryz.ntmps10
  go_wp2_with fail
  generalize ((w.alloc (.cells #[.slice A n c, .int .i64 m.guest, .slice rA rn rc, .slice sA sn sc, .slice fA fn fc, .slice pA pn pc] 29)).alloc (.cells #[.slice none 0 0, .int .i64 0, .slice none 0 0, .slice none 0 0, .slice none 0 0, .slice none 0 0] 29)) = W2 at *
  refine K1.out.mono ?_
  rintro e w3 ⟨rfl, hb⟩
  have zs := f3.next hb
  have th := below_next f1 hb
  clear x0 x1 x2 x3 x4 x5 f1 f3 K1
  have O := outS (g := 0) zs (StkN.none_ _ w.heap.size) th (Nat.le_refl _) (by omega)
  dsimp only [noV] at O
  obtain ⟨⟨k0, k1, k2, k3, k4, k5⟩, hN, hB⟩ := O
  obtain ⟨y0, y1, y2, y3, y4, y5⟩ := zs.cells
  obtain ⟨q0, q1, q2, q3, q4, q5⟩ := zs.froz
  have HK := Lib.hid (And.intro k0 (And.intro k1 (And.intro k2 (And.intro k3 (And.intro k4 (And.intro k5 (And.intro hN hB)))))))
  clear zs th k0 k1 k2 k3 k4 k5 hN hB
  go_wp2_with fail
  obtain ⟨k0, k1, k2, k3, k4, k5, hN, hB⟩ := HK.out
  refine bodyPost_ret (v := .tuple #[stkV none 0 0 noImg noV, .int .i64 er]) ?_ rfl ⟨none, 0, 0, noV, rfl, hN.stkR, hB⟩
  simp [results, Tryz.results10, go_sem, stkV, noImg, noV, k0, k1, k2, k3, k4, k5]
set_option maxRecDepth 100000 in
set_option maxHeartbeats 2000000 in
theorem rswrite_full (A : Option Addr) (n c : Nat) (l : List ByteArray) (v : IV) (m : Img) (x : Int) (pg : ByteArray) (w : World) (h : StkR w A n c v ⟨l, m⟩) (hp : checkS ⟨l, m⟩ = 0) (he : writeE m x pg ≠ 0) :
    Calls Tryz.prog 10 #[stkV A n c m v, .int .i64 x, .string pg] w (StkOut noStk (writeE m x pg) w) := by
  have K1' := fun W (hb : Below w.heap.size w W) => rstcheck_any A n c l v m W (h.next hb)
  have K2' := fun W (hb : Below w.heap.size w W) => writeOf_any v m x pg W (h.next hb).top
  have hz : (writeE m x pg != 0) = true := by simpa using he
  clear he
  generalize writeE m x pg = er at *
  generalize writeI m x pg = z at *
  obtain ⟨f1, f2, f3, f4⟩ := boxes2S w A n c m.guest v
  obtain ⟨rA, rn, rc, sA, sn, sc, fA, fn, fc, pA, pn, pc⟩ := v
  dsimp only [stkV, imgV] at *
  rw [hp] at K1'
  have K1 := Lib.hid (K1' _ f1)
  have K2 := Lib.hid K2'
  obtain ⟨x0, x1, x2, x3, x4, x5⟩ := f2
  dsimp only at x0 x1 x2 x3 x4 x5
  clear K1' K2' h hp
  go_enter Tryz.func10, Tryz.ntmps10
  go_wp2_with fail
  generalize ((w.alloc (.cells #[.slice A n c, .int .i64 m.guest, .slice rA rn rc, .slice sA sn sc, .slice fA fn fc, .slice pA pn pc] 29)).alloc (.cells #[.slice none 0 0, .int .i64 0, .slice none 0 0, .slice none 0 0, .slice none 0 0, .slice none 0 0] 29)) = W2 at *
  refine K1.out.mono ?_
  rintro e w3 ⟨rfl, hb⟩
  have zs := f3.next hb
  have th := below_next f1 hb
  have X3 := BoxS.keep (v := ⟨rA, rn, rc, sA, sn, sc, fA, fn, fc, pA, pn, pc⟩) ⟨x0, x1, x2, x3, x4, x5⟩ hb (by omega)
  have l3 := hb.size
  clear x0 x1 x2 x3 x4 x5 f1 f3 K1 hb
  obtain ⟨x0, x1, x2, x3, x4, x5⟩ := X3
  dsimp only at x0 x1 x2 x3 x4 x5
  have ZH := Lib.hid zs
  have TH := Lib.hid th
  clear zs
  go_wp2_with fail
  refine (K2.out _ th).mono ?_
  rintro e w5 ⟨⟨brA, brn, brc, bsA, bsn, bsc, bfA, bfn, bfc, bpA, bpn, bpc⟩, rfl, hF, hb⟩
  have X5 := BoxS.keep (v := ⟨rA, rn, rc, sA, sn, sc, fA, fn, fc, pA, pn, pc⟩) ⟨x0, x1, x2, x3, x4, x5⟩ hb (by omega)
  have l5 := hb.size
  have hx := Box.new w5 z.guest ⟨brA, brn, brc, bsA, bsn, bsc, bfA, bfn, bfc, bpA, bpn, bpc⟩ 27
  have b1 := below1 w5 (.cells #[.int .i64 z.guest, .slice brA brn brc, .slice bsA bsn bsc, .slice bfA bfn bfc, .slice bpA bpn bpc] 27)
  have s6 : (w5.alloc (.cells #[.int .i64 z.guest, .slice brA brn brc, .slice bsA bsn bsc, .slice bfA bfn bfc, .slice bpA bpn bpc] 27)).heap.size = w5.heap.size + 1 := World.size_alloc _ _
  have zs := (ZH.out.next hb).next b1
  have th := below_next (below_next TH.out hb) b1
  have hF6 := hF.next b1
  have X6 := X5.keep b1 (by omega)
  dsimp only [imgV] at hx b1 zs th hF6 X6 ⊢
  clear x0 x1 x2 x3 x4 x5 X5 hb hF ZH TH K2 b1
  have HX := Lib.hid hx
  clear X6 hF6 hx
  have O := outS (g := 0) zs (StkN.none_ _ w.heap.size) th (Nat.le_refl _) (by omega)
  dsimp only [noV] at O
  obtain ⟨⟨k0, k1, k2, k3, k4, k5⟩, hN, hB⟩ := O
  obtain ⟨y0, y1, y2, y3, y4, y5⟩ := zs.cells
  obtain ⟨q0, q1, q2, q3, q4, q5⟩ := zs.froz
  have HK := Lib.hid (And.intro k0 (And.intro k1 (And.intro k2 (And.intro k3 (And.intro k4 (And.intro k5 (And.intro hN hB)))))))
  clear zs th k0 k1 k2 k3 k4 k5 hN hB
  go_wp2_with fail
  obtain ⟨k0, k1, k2, k3, k4, k5, hN, hB⟩ := HK.out
  refine bodyPost_ret (v := .tuple #[stkV none 0 0 noImg noV, .int .i64 er]) ?_ rfl ⟨none, 0, 0, noV, rfl, hN.stkR, hB⟩
  simp [results, Tryz.results10, go_sem, stkV, noImg, noV, k0, k1, k2, k3, k4, k5]
set_option maxRecDepth 100000 in
set_option maxHeartbeats 2000000 in
theorem rswrite_ok (A : Option Addr) (n c : Nat) (l : List ByteArray) (v : IV) (m : Img) (x : Int) (pg : ByteArray) (w : World) (h : StkR w A n c v ⟨l, m⟩) (hp : checkS ⟨l, m⟩ = 0) (he : writeE m x pg = 0) :
    Calls Tryz.prog 10 #[stkV A n c m v, .int .i64 x, .string pg] w (StkOut ⟨l, writeI m x pg⟩ (0) w) := by
  have K1' := fun W (hb : Below w.heap.size w W) => rstcheck_any A n c l v m W (h.next hb)
  have K2' := fun W (hb : Below w.heap.size w W) => writeOf_any v m x pg W (h.next hb).top
  have h16 := (pagesErr_len (checkS_is hp).1).1
  have hnl := h.base.len
  have hss := h.base.2
  have HR := Lib.hid h
  obtain ⟨i0, hi0, hz0, hz1, hz2⟩ := info_parts Tryz.infoStr
  rw [he] at K2'
  clear he
  generalize writeI m x pg = z at *
  obtain ⟨f1, f2, f3, f4⟩ := boxes2S w A n c m.guest v
  obtain ⟨rA, rn, rc, sA, sn, sc, fA, fn, fc, pA, pn, pc⟩ := v
  dsimp only [stkV, imgV] at *
  rw [hp] at K1'
  have K1 := Lib.hid (K1' _ f1)
  have K2 := Lib.hid K2'
  obtain ⟨x0, x1, x2, x3, x4, x5⟩ := f2
  dsimp only at x0 x1 x2 x3 x4 x5
  clear K1' K2' h hp
  go_enter Tryz.func10, Tryz.ntmps10
  go_wp2_with fail
  generalize ((w.alloc (.cells #[.slice A n c, .int .i64 m.guest, .slice rA rn rc, .slice sA sn sc, .slice fA fn fc, .slice pA pn pc] 29)).alloc (.cells #[.slice none 0 0, .int .i64 0, .slice none 0 0, .slice none 0 0, .slice none 0 0, .slice none 0 0] 29)) = W2 at *
  refine K1.out.mono ?_
  rintro e w3 ⟨rfl, hb⟩
  have zs := f3.next hb
  have th := below_next f1 hb
  have X3 := BoxS.keep (v := ⟨rA, rn, rc, sA, sn, sc, fA, fn, fc, pA, pn, pc⟩) ⟨x0, x1, x2, x3, x4, x5⟩ hb (by omega)
  have l3 := hb.size
  clear x0 x1 x2 x3 x4 x5 f1 f3 K1 hb
  obtain ⟨x0, x1, x2, x3, x4, x5⟩ := X3
  dsimp only at x0 x1 x2 x3 x4 x5
  have ZH := Lib.hid zs
  have TH := Lib.hid th
  clear zs
  go_wp2_with fail
  refine (K2.out _ th).mono ?_
  rintro e w5 ⟨⟨brA, brn, brc, bsA, bsn, bsc, bfA, bfn, bfc, bpA, bpn, bpc⟩, rfl, hF, hb⟩
  have X5 := BoxS.keep (v := ⟨rA, rn, rc, sA, sn, sc, fA, fn, fc, pA, pn, pc⟩) ⟨x0, x1, x2, x3, x4, x5⟩ hb (by omega)
  have l5 := hb.size
  have hx := Box.new w5 z.guest ⟨brA, brn, brc, bsA, bsn, bsc, bfA, bfn, bfc, bpA, bpn, bpc⟩ 27
  have b1 := below1 w5 (.cells #[.int .i64 z.guest, .slice brA brn brc, .slice bsA bsn bsc, .slice bfA bfn bfc, .slice bpA bpn bpc] 27)
  have s6 : (w5.alloc (.cells #[.int .i64 z.guest, .slice brA brn brc, .slice bsA bsn bsc, .slice bfA bfn bfc, .slice bpA bpn bpc] 27)).heap.size = w5.heap.size + 1 := World.size_alloc _ _
  have zs := (ZH.out.next hb).next b1
  have th := below_next (below_next TH.out hb) b1
  have hF6 := hF.next b1
  have X6 := X5.keep b1 (by omega)
  dsimp only [imgV] at hx b1 zs th hF6 X6 ⊢
  clear x0 x1 x2 x3 x4 x5 X5 hb hF ZH TH K2 b1
  have HF6 := Lib.hid hF6
  have ZH := Lib.hid zs
  have TH := Lib.hid th
  obtain ⟨x0, x1, x2, x3, x4, x5⟩ := X6
  obtain ⟨c0, c1, c2, c3, c4⟩ := hx
  dsimp only at x0 x1 x2 x3 x4 x5 c0 c1 c2 c3 c4
  clear hF6 zs
  go_wp2_with fail
  generalize (w5.alloc (.cells #[.int .i64 z.guest, .slice brA brn brc, .slice bsA bsn bsc, .slice bfA bfn bfc, .slice bpA bpn bpc] 27)) = W6 at *
  have hl1 : w.heap.size < W6.heap.size := by omega
  have hl2 : w5.heap.size < W6.heap.size := by omega
  have mvT := Lib.hid (fun (W' : World) (hb : Below W6.drew.heap.size W6.drew W') => (show W'.cell? ⟨w.heap.size, 0, none⟩ = some (.slice A n c) ∧ W'.cell? ⟨w5.heap.size, 0, none⟩ = some (.int .i64 z.guest) ∧ W'.cell? ⟨w5.heap.size, 1, none⟩ = some (.slice brA brn brc) ∧ W'.cell? ⟨w5.heap.size, 2, none⟩ = some (.slice bsA bsn bsc) ∧ W'.cell? ⟨w5.heap.size, 3, none⟩ = some (.slice bfA bfn bfc) ∧ W'.cell? ⟨w5.heap.size, 4, none⟩ = some (.slice bpA bpn bpc) from ⟨(hb.cell (p := ⟨w.heap.size, 0, none⟩) hl1).trans x0, (hb.cell (p := ⟨w5.heap.size, 0, none⟩) hl2).trans c0, (hb.cell (p := ⟨w5.heap.size, 1, none⟩) hl2).trans c1, (hb.cell (p := ⟨w5.heap.size, 2, none⟩) hl2).trans c2, (hb.cell (p := ⟨w5.heap.size, 3, none⟩) hl2).trans c3, (hb.cell (p := ⟨w5.heap.size, 4, none⟩) hl2).trans c4⟩))
  clear x0 x1 x2 x3 x4 x5 c0 c1 c2 c3 c4
  refine wp_region_z (S := fun W' => W'.cell? ⟨w.heap.size, 0, none⟩ = some (.slice A n c) ∧ W'.cell? ⟨w5.heap.size, 0, none⟩ = some (.int .i64 z.guest) ∧ W'.cell? ⟨w5.heap.size, 1, none⟩ = some (.slice brA brn brc) ∧ W'.cell? ⟨w5.heap.size, 2, none⟩ = some (.slice bsA bsn bsc) ∧ W'.cell? ⟨w5.heap.size, 3, none⟩ = some (.slice bfA bfn bfc) ∧ W'.cell? ⟨w5.heap.size, 4, none⟩ = some (.slice bpA bpn bpc)) 6 (by kernel_rfl) (fun hC => ?_)
  have hSS := mvT.out W6.drew (Below.refl _ _)
  apply wpAnyZ_take (i := 1)
  case hi => rfl
  case hs => kernel_rfl
  case hf => kernel_rfl
  case hr => kernel_rfl
  case hu => kernel_rfl
  case hw => exact fun z h1 h2 => (by have h2 : z < 8 := h2; have h3 : z = 6 ∨ z = 7 := (by omega); rcases h3 with rfl | rfl; exact ⟨[2, 3], by kernel_rfl⟩; exact ⟨[2, 3, 6], by kernel_rfl⟩)
  case hQ => exact fun _ _ _ h => h
  case hy => exact Or.inl ⟨by rfl, fun w' hSw => by (obtain ⟨s0, s1, s2, s3, s4, s5⟩ := hSw; go_simp; try with_reducible rfl)⟩
  case hS => assumption
  case hC => assumption
  clear hC
  intro hC
  apply wpAnyZ_take (i := 2)
  case hi => rfl
  case hs => kernel_rfl
  case hf => kernel_rfl
  case hr => kernel_rfl
  case hu => kernel_rfl
  case hw => exact fun z h1 h2 => (by have h2 : z < 8 := h2; have h3 : z = 6 ∨ z = 7 := (by omega); rcases h3 with rfl | rfl; exact ⟨[3], by kernel_rfl⟩; exact ⟨[3, 6], by kernel_rfl⟩)
  case hQ => exact fun _ _ _ h => h
  case hy => exact Or.inl ⟨by rfl, fun w' hSw => by (obtain ⟨s0, s1, s2, s3, s4, s5⟩ := hSw; go_simp; try with_reducible rfl)⟩
  case hS => assumption
  case hC => assumption
  clear hC
  intro hC
  apply wpAnyZ_take (i := 4)
  case hi => rfl
  case hs => kernel_rfl
  case hf => kernel_rfl
  case hr => kernel_rfl
  case hu => kernel_rfl
  case hw => exact fun z h1 h2 => (by have h2 : z < 8 := h2; have h3 : z = 6 ∨ z = 7 := (by omega); rcases h3 with rfl | rfl; exact ⟨[5], by kernel_rfl⟩; exact ⟨[5, 6], by kernel_rfl⟩)
  case hQ => exact fun _ _ _ h => h
  case hy => exact Or.inl ⟨by rfl, fun w' hSw => by (obtain ⟨s0, s1, s2, s3, s4, s5⟩ := hSw; go_simp; try with_reducible rfl)⟩
  case hS => assumption
  case hC => assumption
  clear hC
  intro hC
  clear hSS hC
  have b00 := below1 W6 (.cells #[] 9)
  have b0 : Below W6.drew.heap.size W6.drew (W6.alloc (.cells #[] 9)).drew := ⟨b00.os, b00.tape, b00.output, b00.size, b00.block⟩
  have hs0 : (W6.alloc (.cells #[] 9)).drew.heap.size = W6.heap.size + 1 := World.size_alloc _ _
  have T0 := below_next (th.drew) b0
  have hrd := (HR.out.next T0).base.1
  obtain ⟨A10, c10, w10, hrun, ho, hb', hc1, hc2, hg, _⟩ := run_app (P := Tryz.prog) (W6.alloc (.cells #[] 9)).drew W6.heap.size 22 22 9 i0 _ 1 16 Tryz.underlying22 hi0 hz0 hz1 hz2 rfl (by omega) _ 0 []
      (own_new W6 _ _ _ (Nat.le_refl _)) _ A n c (l.map Value.string) hrd (oneCell_strs l) (by (try dsimp only at h16 hnl); omega) (by unfold maxLen; (try dsimp only at h16 hnl); omega) (by omega)
  rw [Nat.zero_add] at hrun ho hc1
  rw [List.nil_append] at ho
  have hb : Below W6.drew.heap.size W6.drew w10 := b0.trans hb'
  rw [s6] at hrun
  have HRUN := Lib.hid hrun
  clear hrun hrd
  refine wpAnyZ_one (i := 0) (by kernel_rfl) rfl (fun K' hK => ?_)
  go_simp
  refine hK.out _ _ (fun _ => mvT.out _ b0) ?_
  clear hK
  refine wpAnyZ_one (i := 3) (by kernel_rfl) rfl (fun K' hK => ?_)
  refine step_app rfl _ _ _ _ _ rfl rfl rfl rfl HRUN.out ?_
  refine hK.out _ _ (fun _ => mvT.out _ hb) ?_
  clear hK
  have zs := (ZH.out.next (Below.refl _ _).drew).next hb
  have TU := below_next TH.out.drew hb
  have hl10 := hb.size
  have hN : StkN w10 w.heap.size A10 n c10 ⟨brA, brn, brc, bsA, bsn, bsc, bfA, bfn, bfc, bpA, bpn, bpc⟩ ⟨l, z⟩ :=
    ⟨own_base ho (Nat.le_trans TH.out.size (Nat.le_refl _)), h16, hss, ((HF6.out.next (Below.refl _ _).drew).next hb).mono (by omega)⟩
  have O := outS (g := z.guest) zs hN TU (Nat.le_refl _) (by omega)
  dsimp only at O
  obtain ⟨⟨k0, k1, k2, k3, k4, k5⟩, hN', hB⟩ := O
  obtain ⟨y0, y1, y2, y3, y4, y5⟩ := zs.cells
  obtain ⟨q0, q1, q2, q3, q4, q5⟩ := zs.froz
  have HK := Lib.hid (And.intro k0 (And.intro k1 (And.intro k2 (And.intro k3 (And.intro k4 (And.intro k5 (And.intro hN' hB)))))))
  clear k0 k1 k2 k3 k4 k5 hN' hB hN zs TU ho
  refine wpAnyZ_one (i := 5) (by kernel_rfl) rfl (fun K' hK => ?_)
  go_simp
  refine hK.out _ _ (fun _ => mvT.out _ hb) ?_
  clear hK
  refine wpAnyZ_one (i := 6) (by kernel_rfl) rfl (fun K' hK => ?_)
  go_simp
  refine hK.out _ _ (fun h => absurd h (by decide)) ?_
  clear hK
  refine wpAnyZ_one (i := 7) (by kernel_rfl) rfl (fun K' hK => ?_)
  go_simp
  refine hK.out _ _ (fun h => absurd h (by decide)) ?_
  clear hK
  refine wpAnyZ_done (by kernel_rfl) ?_ _
  clear mvT y0 y1 y2 y3 y4 y5 q0 q1 q2 q3 q4 q5
  go_wp2_with fail
  obtain ⟨k0, k1, k2, k3, k4, k5, hN, hB⟩ := HK.out
  refine bodyPost_ret (v := .tuple #[stkV A10 n c10 z ⟨brA, brn, brc, bsA, bsn, bsc, bfA, bfn, bfc, bpA, bpn, bpc⟩, .int .i64 0]) ?_ rfl ⟨_, _, _, _, rfl, hN.stkR, hB⟩
  simp [results, Tryz.results10, go_sem, stkV, k0, k1, k2, k3, k4, k5]
theorem rswrite_any (A : Option Addr) (n c : Nat) (l : List ByteArray) (v : IV) (m : Img) (x : Int) (pg : ByteArray) (w : World) (h : StkR w A n c v ⟨l, m⟩) :
    Calls Tryz.prog 10 #[stkV A n c m v, .int .i64 x, .string pg] w (StkOut (writeSV ⟨l, m⟩ x pg) (writeSE ⟨l, m⟩ x pg) w) := by
  by_cases hp : checkS ⟨l, m⟩ = 0
  · have e1 : writeSE ⟨l, m⟩ x pg = writeE m x pg := by unfold writeSE; rw [if_pos hp]
    by_cases he : writeE m x pg = 0
    · have e2 : writeSV ⟨l, m⟩ x pg = ⟨l, writeI m x pg⟩ := by unfold writeSV; rw [if_pos (by rw [e1]; exact he)]
      rw [e1, e2, he]; exact rswrite_ok A n c l v m x pg w h hp he
    · have e2 : writeSV ⟨l, m⟩ x pg = noStk := by unfold writeSV; rw [if_neg (by rw [e1]; exact he)]
      rw [e1, e2]; exact rswrite_full A n c l v m x pg w h hp he
  · have e1 : writeSE ⟨l, m⟩ x pg = checkS ⟨l, m⟩ := by unfold writeSE; rw [if_neg hp]
    have e2 : writeSV ⟨l, m⟩ x pg = noStk := by unfold writeSV; rw [if_neg (by rw [e1]; exact hp)]
    rw [e1, e2]; exact rswrite_no A n c l v m x pg w h hp
set_option maxRecDepth 100000 in
set_option maxHeartbeats 2000000 in
theorem rscommit_no (A : Option Addr) (n c : Nat) (l : List ByteArray) (v : IV) (m : Img) (w : World) (h : StkR w A n c v ⟨l, m⟩) (hp : checkS ⟨l, m⟩ ≠ 0) :
    Calls Tryz.prog 16 #[stkV A n c m v] w (StkOut noStk (checkS ⟨l, m⟩) w) := by
  have K1' := fun W (hb : Below w.heap.size w W) => rstcheck_any A n c l v m W (h.next hb)
  obtain ⟨f1, f2, f3, f4⟩ := boxes2S w A n c m.guest v
  obtain ⟨rA, rn, rc, sA, sn, sc, fA, fn, fc, pA, pn, pc⟩ := v
  dsimp only [stkV, imgV] at *
  have K1 := Lib.hid (K1' _ f1)
  have hz : (checkS ⟨l, m⟩ != 0) = true := by simpa using hp
  generalize checkS ⟨l, m⟩ = er at *
  obtain ⟨x0, x1, x2, x3, x4, x5⟩ := f2
  dsimp only at x0 x1 x2 x3 x4 x5
  clear K1' h hp
  go_enter Tryz.func16, Tryz.ntmps16
  go_wp2_with fail
  generalize ((w.alloc (.cells #[.slice A n c, .int .i64 m.guest, .slice rA rn rc, .slice sA sn sc, .slice fA fn fc, .slice pA pn pc] 29)).alloc (.cells #[.slice none 0 0, .int .i64 0, .slice none 0 0, .slice none 0 0, .slice none 0 0, .slice none 0 0] 29)) = W2 at *
  refine K1.out.mono ?_
  rintro e w3 ⟨rfl, hb⟩
  have zs := f3.next hb
  have th := below_next f1 hb
  clear x0 x1 x2 x3 x4 x5 f1 f3 K1
  have O := outS (g := 0) zs (StkN.none_ _ w.heap.size) th (Nat.le_refl _) (by omega)
  dsimp only [noV] at O
  obtain ⟨⟨k0, k1, k2, k3, k4, k5⟩, hN, hB⟩ := O
  obtain ⟨y0, y1, y2, y3, y4, y5⟩ := zs.cells
  obtain ⟨q0, q1, q2, q3, q4, q5⟩ := zs.froz
  have HK := Lib.hid (And.intro k0 (And.intro k1 (And.intro k2 (And.intro k3 (And.intro k4 (And.intro k5 (And.intro hN hB)))))))
  clear zs th k0 k1 k2 k3 k4 k5 hN hB
  go_wp2_with fail
  obtain ⟨k0, k1, k2, k3, k4, k5, hN, hB⟩ := HK.out
  refine bodyPost_ret (v := .tuple #[stkV none 0 0 noImg noV, .int .i64 er]) ?_ rfl ⟨none, 0, 0, noV, rfl, hN.stkR, hB⟩
  simp [results, Tryz.results16, go_sem, stkV, noImg, noV, k0, k1, k2, k3, k4, k5]
set_option maxRecDepth 100000 in
set_option maxHeartbeats 2000000 in
theorem rscommit_busy (A : Option Addr) (n c : Nat) (l : List ByteArray) (v : IV) (m : Img) (w : World) (h : StkR w A n c v ⟨l, m⟩) (hp : checkS ⟨l, m⟩ = 0) (hs : m.snaps.length ≠ 0) :
    Calls Tryz.prog 16 #[stkV A n c m v] w (StkOut noStk (8) w) := by
  have K1' := fun W (hb : Below w.heap.size w W) => rstcheck_any A n c l v m W (h.next hb)
  have hpl := h.top.plen
  have hpc := h.top.pcap.1
  obtain ⟨f1, f2, f3, f4⟩ := boxes2S w A n c m.guest v
  obtain ⟨rA, rn, rc, sA, sn, sc, fA, fn, fc, pA, pn, pc⟩ := v
  dsimp only [stkV, imgV] at *
  rw [hp] at K1'
  have K1 := Lib.hid (K1' _ f1)
  have hpn : (0 : Int) < (pn : Int) := by omega
  obtain ⟨x0, x1, x2, x3, x4, x5⟩ := f2
  dsimp only at x0 x1 x2 x3 x4 x5
  clear K1' h hp hs hpl
  go_enter Tryz.func16, Tryz.ntmps16
  go_wp2_with fail
  generalize ((w.alloc (.cells #[.slice A n c, .int .i64 m.guest, .slice rA rn rc, .slice sA sn sc, .slice fA fn fc, .slice pA pn pc] 29)).alloc (.cells #[.slice none 0 0, .int .i64 0, .slice none 0 0, .slice none 0 0, .slice none 0 0, .slice none 0 0] 29)) = W2 at *
  refine K1.out.mono ?_
  rintro e w3 ⟨rfl, hb⟩
  have zs := f3.next hb
  have th := below_next f1 hb
  have X3 := BoxS.keep (v := ⟨rA, rn, rc, sA, sn, sc, fA, fn, fc, pA, pn, pc⟩) ⟨x0, x1, x2, x3, x4, x5⟩ hb (by omega)
  have l3 := hb.size
  clear x0 x1 x2 x3 x4 x5 f1 f3 K1 hb
  obtain ⟨x0, x1, x2, x3, x4, x5⟩ := X3
  dsimp only at x0 x1 x2 x3 x4 x5
  have O := outS (g := 0) zs (StkN.none_ _ w.heap.size) th (Nat.le_refl _) (by omega)
  dsimp only [noV] at O
  obtain ⟨⟨k0, k1, k2, k3, k4, k5⟩, hN, hB⟩ := O
  obtain ⟨y0, y1, y2, y3, y4, y5⟩ := zs.cells
  obtain ⟨q0, q1, q2, q3, q4, q5⟩ := zs.froz
  have HK := Lib.hid (And.intro k0 (And.intro k1 (And.intro k2 (And.intro k3 (And.intro k4 (And.intro k5 (And.intro hN hB)))))))
  clear zs th k0 k1 k2 k3 k4 k5 hN hB
  go_wp2_with fail
  obtain ⟨k0, k1, k2, k3, k4, k5, hN, hB⟩ := HK.out
  refine bodyPost_ret (v := .tuple #[stkV none 0 0 noImg noV, .int .i64 8]) ?_ rfl ⟨none, 0, 0, noV, rfl, hN.stkR, hB⟩
  simp [results, Tryz.results16, go_sem, stkV, noImg, noV, k0, k1, k2, k3, k4, k5]
set_option maxRecDepth 100000 in
set_option maxHeartbeats 2000000 in
theorem rscommit_ok (A : Option Addr) (n c : Nat) (l : List ByteArray) (v : IV) (m : Img) (w : World) (h : StkR w A n c v ⟨l, m⟩) (hp : checkS ⟨l, m⟩ = 0) (hs : m.snaps.length = 0) :
    Calls Tryz.prog 16 #[stkV A n c m v] w (StkOut (commitV ⟨l, m⟩) 0 w) := by
  obtain ⟨i0, hi0, hz0, hz1, hz2⟩ := info_parts Tryz.infoStr
  have hce : commitE ⟨l, m⟩ = 0 := by unfold commitE; rw [if_pos hp]; exact if_pos hs
  obtain ⟨g, hg⟩ := Int.eq_ofNat_of_zero_le (own_facts (checkS_is hp).2).1
  dsimp only at hg
  obtain ⟨hV, g16, hpg⟩ := commit_pages hce hg
  have KF := Lib.hid (fun W => rfresh_any (g : Nat) W (by omega) (by omega))
  have K2 := Lib.hid (fun (k : Nat) (hk : k < g) W (hb : Below w.heap.size w W) => rsread_any A n c l v m k W (h.next hb) (checkS_is hp).2 (by omega))
  rw [hV]
  have HS := Lib.hid (fun k hk => (hpg k hk).2)
  have HL := Lib.hid (fun k => (show (List.range (k + 1)).map (pageS ⟨l, m⟩) = (List.range k).map (pageS ⟨l, m⟩) ++ [pageS ⟨l, m⟩ k] from by rw [List.range_succ, List.map_append]; rfl))
  generalize pageS ⟨l, m⟩ = pg at *
  have K1' := fun W (hb : Below w.heap.size w W) => rstcheck_any A n c l v m W (h.next hb)
  have hpl := h.top.plen
  have hpc := h.top.pcap.1
  rw [hp] at K1'
  clear hV hpg hce hp h
  have hmg : m.guest = (g : Nat) := hg
  rw [show stkV A n c m v = .agg #[.slice A n c, .int .i64 (g : Nat), .slice v.rA v.rn v.rc, .slice v.sA v.sn v.sc, .slice v.fA v.fn v.fc, .slice v.pA v.pn v.pc] from by unfold stkV; rw [hmg]] at *
  obtain ⟨f1, f2, f3, f4⟩ := boxes2S w A n c (g : Nat) v
  obtain ⟨rA, rn, rc, sA, sn, sc, fA, fn, fc, pA, pn, pc⟩ := v
  dsimp only [stkV, imgV] at *
  have K1 := Lib.hid (K1' _ f1)
  obtain rfl : pn = 0 := by omega
  obtain ⟨x0, x1, x2, x3, x4, x5⟩ := f2
  dsimp only at x0 x1 x2 x3 x4 x5
  clear K1' hs hpl hg hmg
  go_enter Tryz.func16, Tryz.ntmps16
  go_wp2_with fail
  generalize ((w.alloc (.cells #[.slice A n c, .int .i64 (g : Nat), .slice rA rn rc, .slice sA sn sc, .slice fA fn fc, .slice pA 0 pc] 29)).alloc (.cells #[.slice none 0 0, .int .i64 0, .slice none 0 0, .slice none 0 0, .slice none 0 0, .slice none 0 0] 29)) = W2 at *
  refine K1.out.mono ?_
  rintro e w3 ⟨rfl, hb⟩
  have zs := f3.next hb
  have th := below_next f1 hb
  have X3 := BoxS.keep (v := ⟨rA, rn, rc, sA, sn, sc, fA, fn, fc, pA, 0, pc⟩) ⟨x0, x1, x2, x3, x4, x5⟩ hb (by omega)
  have l3 := hb.size
  clear x0 x1 x2 x3 x4 x5 f1 f3 K1 hb
  obtain ⟨x0, x1, x2, x3, x4, x5⟩ := X3
  dsimp only at x0 x1 x2 x3 x4 x5
  have ZH := Lib.hid zs
  have TH := Lib.hid th
  clear zs
  go_wp2_with fail
  refine (KF.out _).mono ?_
  rintro e w5 ⟨⟨frA, frn, frc, fsA, fsn, fsc, ffA, ffn, ffc, fpA, fpn, fpc⟩, rfl, hF, hb⟩
  have l5 := hb.size
  have X5 := BoxS.keep (v := ⟨rA, rn, rc, sA, sn, sc, fA, fn, fc, pA, 0, pc⟩) ⟨x0, x1, x2, x3, x4, x5⟩ hb (by omega)
  have zs := ZH.out.next hb
  have th := below_next TH.out hb
  have b1 := below1 w5 (.cells #[.slice none 0 0, .int .i64 (g : Nat), .slice frA frn frc, .slice fsA fsn fsc, .slice ffA ffn ffc, .slice fpA fpn fpc] 29)
  have xb := BoxS.new w5 none 0 0 (g : Nat) ⟨frA, frn, frc, fsA, fsn, fsc, ffA, ffn, ffc, fpA, fpn, fpc⟩ 29
  have gb : BoxG (w5.alloc (.cells #[.slice none 0 0, .int .i64 (g : Nat), .slice frA frn frc, .slice fsA fsn fsc, .slice ffA ffn ffc, .slice fpA fpn fpc] 29)) w5.heap.size 29 := BoxG.new w5 _ 29
  have s6 : (w5.alloc (.cells #[.slice none 0 0, .int .i64 (g : Nat), .slice frA frn frc, .slice fsA fsn fsc, .slice ffA ffn ffc, .slice fpA fpn fpc] 29)).heap.size = w5.heap.size + 1 := World.size_alloc _ _
  have HX5 := Lib.hid X5
  have HZ5 := Lib.hid zs
  have HT5 := Lib.hid th
  have HF5 := Lib.hid (hF.mono (show w.heap.size ≤ w3.heap.size by omega))
  clear x0 x1 x2 x3 x4 x5 X5 zs th hb hF ZH TH KF
  dsimp only [imgV, freshI]
  obtain ⟨x0, x1, x2, x3, x4, x5⟩ := HX5.out.keep b1 (by omega)
  obtain ⟨y0, y1, y2, y3, y4, y5⟩ := xb
  dsimp only at x0 x1 x2 x3 x4 x5 y0 y1 y2 y3 y4 y5
  have xb : BoxS (w5.alloc (.cells #[.slice none 0 0, .int .i64 (g : Nat), .slice frA frn frc, .slice fsA fsn fsc, .slice ffA ffn ffc, .slice fpA fpn fpc] 29)) w5.heap.size none 0 0 (g : Nat) ⟨frA, frn, frc, fsA, fsn, fsc, ffA, ffn, ffc, fpA, fpn, fpc⟩ := ⟨y0, y1, y2, y3, y4, y5⟩
  have HXB := Lib.hid xb
  clear xb
  go_wp2_with fail
  generalize (w5.alloc (.cells #[.slice none 0 0, .int .i64 (g : Nat), .slice frA frn frc, .slice fsA fsn fsc, .slice ffA ffn ffc, .slice fpA fpn fpc] 29)) = W6 at *
  clear x0 x1 x2 x3 x4 x5 y0 y1 y2 y3 y4 y5
  go_loopw [6] (fun i wr => ∃ (k c' : Nat) (A' : Option Addr), k ≤ g ∧ i = .int .i64 k ∧ BoxS wr w5.heap.size A' k c' (g : Nat) ⟨frA, frn, frc, fsA, fsn, fsc, ffA, ffn, ffc, fpA, fpn, fpc⟩ ∧ BoxG wr w5.heap.size 29 ∧ wr.ownsRow w5.heap.size 9 1 (.slice A' k c') k (((List.range k).map pg).map Value.string) ∧ Below w5.heap.size w5 wr) (fun i _ => g - (intOf i).toNat)
  case atStart => exact ⟨0, 0, none, Nat.zero_le _, rfl, HXB.out, gb, World.ownsRow_nil _ _ _ _, b1⟩
  case round =>
    obtain ⟨k, c', A', hkg, rfl, hx, hB, ho, hbw⟩ := hrel
    have lr := hB.ty.lt
    have HO := Lib.hid ho
    have HXr := Lib.hid hx
    clear ho
    obtain ⟨x0, x1, x2, x3, x4, x5⟩ := HX5.out.keep hbw (by omega)
    obtain ⟨y0, y1, y2, y3, y4, y5⟩ := hx
    dsimp only at x0 x1 x2 x3 x4 x5 y0 y1 y2 y3 y4 y5
    by_cases hlt : k < g
    · have TR := below_next HT5.out hbw
      have KR := Lib.hid (K2.out k hlt _ TR)
      have YH := Lib.hid y0
      have hlw : w.heap.size < wr.heap.size := by omega
      have mvT := Lib.hid (fun (W' : World) (hb : Below wr.drew.heap.size wr.drew W') => (show W'.cell? ⟨w5.heap.size, 0, none⟩ = some (.slice A' k c') ∧ W'.cell? ⟨w.heap.size, 0, none⟩ = some (.slice A n c) ∧ W'.cell? ⟨w.heap.size, 1, none⟩ = some (.int .i64 (g : Nat)) ∧ W'.cell? ⟨w.heap.size, 2, none⟩ = some (.slice rA rn rc) ∧ W'.cell? ⟨w.heap.size, 3, none⟩ = some (.slice sA sn sc) ∧ W'.cell? ⟨w.heap.size, 4, none⟩ = some (.slice fA fn fc) ∧ W'.cell? ⟨w.heap.size, 5, none⟩ = some (.slice pA 0 pc) from ⟨(hb.cell (p := ⟨w5.heap.size, 0, none⟩) lr).trans y0, (hb.cell (p := ⟨w.heap.size, 0, none⟩) hlw).trans x0, (hb.cell (p := ⟨w.heap.size, 1, none⟩) hlw).trans x1, (hb.cell (p := ⟨w.heap.size, 2, none⟩) hlw).trans x2, (hb.cell (p := ⟨w.heap.size, 3, none⟩) hlw).trans x3, (hb.cell (p := ⟨w.heap.size, 4, none⟩) hlw).trans x4, (hb.cell (p := ⟨w.heap.size, 5, none⟩) hlw).trans x5⟩))
      have KD := Lib.hid (K2.out k hlt _ TR.drew)
      clear KR
      go_wp2_with fail
      clear x0 x1 x2 x3 x4 x5 y0 y1 y2 y3 y4 y5
      refine wp_region_z (S := fun W' => W'.cell? ⟨w5.heap.size, 0, none⟩ = some (.slice A' k c') ∧ W'.cell? ⟨w.heap.size, 0, none⟩ = some (.slice A n c) ∧ W'.cell? ⟨w.heap.size, 1, none⟩ = some (.int .i64 (g : Nat)) ∧ W'.cell? ⟨w.heap.size, 2, none⟩ = some (.slice rA rn rc) ∧ W'.cell? ⟨w.heap.size, 3, none⟩ = some (.slice sA sn sc) ∧ W'.cell? ⟨w.heap.size, 4, none⟩ = some (.slice fA fn fc) ∧ W'.cell? ⟨w.heap.size, 5, none⟩ = some (.slice pA 0 pc)) 8 (by kernel_rfl) (fun hC => ?_)
      have hSS := mvT.out wr.drew (Below.refl _ _)
      apply wpAnyZ_take (i := 0)
      case hi => rfl
      case hs => kernel_rfl
      case hf => kernel_rfl
      case hr => kernel_rfl
      case hu => kernel_rfl
      case hw => exact fun z h1 h2 => (by have h2 : z < 9 := h2; have h3 : z = 8 := (by omega); subst h3; exact ⟨[1, 6], by kernel_rfl⟩)
      case hQ => exact fun _ _ _ h => h
      case hy => exact Or.inl ⟨by rfl, fun w' hSw => by (obtain ⟨s0, s1, s2, s3, s4, s5, s6⟩ := hSw; go_simp; try with_reducible rfl)⟩
      case hS => assumption
      case hC => assumption
      clear hC
      intro hC
      apply wpAnyZ_take (i := 1)
      case hi => rfl
      case hs => kernel_rfl
      case hf => kernel_rfl
      case hr => kernel_rfl
      case hu => kernel_rfl
      case hw => exact fun z h1 h2 => (by have h2 : z < 9 := h2; have h3 : z = 8 := (by omega); subst h3; exact ⟨[6], by kernel_rfl⟩)
      case hQ => exact fun _ _ _ h => h
      case hy => exact Or.inl ⟨by rfl, fun w' hSw => by (obtain ⟨s0, s1, s2, s3, s4, s5, s6⟩ := hSw; go_simp; try with_reducible rfl)⟩
      case hS => assumption
      case hC => assumption
      clear hC
      intro hC
      apply wpAnyZ_take (i := 2)
      case hi => rfl
      case hs => kernel_rfl
      case hf => kernel_rfl
      case hr => kernel_rfl
      case hu => kernel_rfl
      case hw => exact fun z h1 h2 => (by have h2 : z < 9 := h2; have h3 : z = 8 := (by omega); subst h3; exact ⟨[4, 6], by kernel_rfl⟩)
      case hQ => exact fun _ _ _ h => h
      case hy => exact Or.inl ⟨by rfl, fun w' hSw => by (obtain ⟨s0, s1, s2, s3, s4, s5, s6⟩ := hSw; go_simp; try with_reducible rfl)⟩
      case hS => assumption
      case hC => assumption
      clear hC
      intro hC
      apply wpAnyZ_take (i := 3)
      case hi => rfl
      case hs => kernel_rfl
      case hf => kernel_rfl
      case hr => kernel_rfl
      case hu => kernel_rfl
      case hw => exact fun z h1 h2 => (by have h2 : z < 9 := h2; have h3 : z = 8 := (by omega); subst h3; exact ⟨[4, 6], by kernel_rfl⟩)
      case hQ => exact fun _ _ _ h => h
      case hy => exact Or.inl ⟨by rfl, fun w' hSw => by (obtain ⟨s0, s1, s2, s3, s4, s5, s6⟩ := hSw; go_simp; try with_reducible rfl)⟩
      case hS => assumption
      case hC => assumption
      clear hC
      intro hC
      clear hSS hC
      refine wpAnyZ_one (i := 4) (by kernel_rfl) rfl (fun K' hK => ?_)
      go_simp
      refine KD.out.mono ?_
      rintro e w7 ⟨rfl, hb7⟩
      refine hK.out _ _ (fun _ => mvT.out _ hb7) ?_
      clear hK
      have l7 := hb7.size
      have hd : wr.drew.heap.size = wr.heap.size := rfl
      have hbr : Below wr.heap.size wr w7 := (Below.refl wr.heap.size wr).drew.trans hb7
      have hB7 := hB.next hbr
      have ho7 := own_below HO.out hbr
      have hsz : (w7.alloc (.cells #[.string (pg k)] 9)).heap.size = w7.heap.size + 1 := World.size_alloc _ _
      have hlr7 : w5.heap.size ≤ w7.heap.size := by omega
      obtain ⟨A2, c2, w4, q1, q2, q3, q4, q5, q6, _⟩ := app_one (P := Tryz.prog) w7 w5.heap.size 22 22 9 i0 _ 1 16 Tryz.underlying22 hi0 hz0 hz1 hz2 rfl (by omega) _ _ _ ho7 #[.string (pg k)] rfl
        (by intro u hu; simp at hu; subst hu; rfl) (by omega) (by unfold maxLen; omega) hlr7
      have hne : some w5.heap.size ≠ (Value.slice A' k c').ownBlock := by
        rcases own_far ho7 hB7.ty (by decide) with h1 | h1
        · rw [h1]; exact fun e => by cases e
        · exact fun e => h1 e.symm
      have b8 := below1 w7 (.cells #[.string (pg k)] 9)
      have hB8 := (hB7.next b8).kept q6 hne
      have X8 := ((HXr.out.keep hbr lr).keep b8 hB7.ty.lt).kept q6 hne
      have fz := hB8.fz 0
      have HR := Lib.hid q1
      have HO2 := Lib.hid q2
      have hbw4 := (below_next hbw hbr).trans q3
      obtain ⟨z0, z1, z2, z3, z4, z5⟩ := X8
      dsimp only at z0 z1 z2 z3 z4 z5
      have hbA : Below wr.drew.heap.size wr.drew (w7.alloc (.cells #[.string (pg k)] 9)) := below_next hb7 b8
      refine wpAnyZ_one (i := 5) (by kernel_rfl) rfl (fun K' hK => ?_)
      go_simp
      refine hK.out _ _ (fun _ => mvT.out _ hbA) ?_
      clear hK
      refine wpAnyZ_one (i := 6) (by kernel_rfl) rfl (fun K' hK => ?_)
      refine step_app rfl _ _ _ _ _ rfl rfl rfl rfl HR.out ?_
      have hw4 : Below w5.heap.size w7 w4 := q3
      have XA := HX5.out.keep hbw4 (by omega)
      obtain ⟨t0, t1, t2, t3, t4, t5⟩ := XA
      dsimp only at t0 t1 t2 t3 t4 t5
      refine hK.out _ _ (fun _ => ⟨z0, t0, t1, t2, t3, t4, t5⟩) ?_
      clear hK
      refine wpAnyZ_one (i := 7) (by kernel_rfl) rfl (fun K' hK => ?_)
      go_simp
      refine hK.out _ _ (fun _ => ⟨z0, t0, t1, t2, t3, t4, t5⟩) ?_
      clear hK
      refine wpAnyZ_one (i := 8) (by kernel_rfl) rfl (fun K' hK => ?_)
      go_simp
      refine hK.out _ _ (fun h => absurd h (by decide)) ?_
      clear hK
      refine wpAnyZ_done (by kernel_rfl) ?_ _
      clear mvT q1 q2 q3 q6 hb7 ho7 KD hbA hbr
      go_wp2_with fail
      have hgs := grown_set w4 w5.heap.size 0 (.slice A2 (k + 1) c2)
      go_roundw
      case rel =>
        refine ⟨k + 1, c2, A2, by omega, by go_num, ?_, hB8.set _ _, ?_, hbw4.setCell (p := ⟨w5.heap.size, 0, none⟩) (Nat.le_refl _) _⟩
        · refine ⟨?_, ?_, ?_, ?_, ?_, ?_⟩ <;> go_simp
        · rw [HL.out, List.map_append]
          exact HO2.out.kept hgs (own_far HO2.out hB8.ty (by decide))
      case measure => simp [intOf]; omega
    · obtain rfl : k = g := by omega
      have hN : StkN wr w.heap.size A' k c' ⟨frA, frn, frc, fsA, fsn, fsc, ffA, ffn, ffc, fpA, fpn, fpc⟩ ⟨(List.range k).map pg, freshI (k : Nat)⟩ :=
        ⟨own_base HO.out (by omega), by simpa using g16, fun p hp => by
          obtain ⟨j, hj, rfl⟩ := List.mem_map.1 hp
          have := HS.out j (List.mem_range.1 hj)
          omega, HF5.out.next hbw⟩
      have zs := HZ5.out.nextB hbw (by omega)
      have O := outS (g := (k : Nat)) zs hN (below_next HT5.out hbw) (Nat.le_refl _) (by omega)
      dsimp only at O
      obtain ⟨⟨k0, k1, k2, k3, k4, k5⟩, hN', hBB⟩ := O
      obtain ⟨u0, u1, u2, u3, u4, u5⟩ := zs.cells
      obtain ⟨q0, q1, q2, q3, q4, q5⟩ := zs.froz
      have HK := Lib.hid (And.intro k0 (And.intro k1 (And.intro k2 (And.intro k3 (And.intro k4 (And.intro k5 (And.intro hN' hBB)))))))
      clear k0 k1 k2 k3 k4 k5 hN' hBB hN zs HO
      go_wp2_with fail
      obtain ⟨k0, k1, k2, k3, k4, k5, hN, hBB⟩ := HK.out
      refine bodyPost_ret (v := .tuple #[stkV A' k c' (freshI (k : Nat)) ⟨frA, frn, frc, fsA, fsn, fsc, ffA, ffn, ffc, fpA, fpn, fpc⟩, .int .i64 0]) ?_ rfl ⟨_, _, _, _, rfl, hN.stkR, hBB⟩
      simp [results, Tryz.results16, go_sem, stkV, freshI, k0, k1, k2, k3, k4, k5]
theorem rscommit_any (A : Option Addr) (n c : Nat) (l : List ByteArray) (v : IV) (m : Img) (w : World) (h : StkR w A n c v ⟨l, m⟩) :
    Calls Tryz.prog 16 #[stkV A n c m v] w (StkOut (commitV ⟨l, m⟩) (commitE ⟨l, m⟩) w) := by
  by_cases hp : checkS ⟨l, m⟩ = 0
  · by_cases hs : m.snaps.length = 0
    · have e1 : commitE ⟨l, m⟩ = 0 := by unfold commitE; rw [if_pos hp]; exact if_pos hs
      rw [e1]; exact rscommit_ok A n c l v m w h hp hs
    · have e1 : commitE ⟨l, m⟩ = 8 := by unfold commitE; rw [if_pos hp]; exact if_neg hs
      have e2 : commitV ⟨l, m⟩ = noStk := by unfold commitV; rw [if_neg (by rw [e1]; decide)]
      rw [e1, e2]; exact rscommit_busy A n c l v m w h hp hs
  · have e1 : commitE ⟨l, m⟩ = checkS ⟨l, m⟩ := by unfold commitE; rw [if_neg hp]
    have e2 : commitV ⟨l, m⟩ = noStk := by unfold commitV; rw [if_neg (by rw [e1]; exact hp)]
    rw [e1, e2]; exact rscommit_no A n c l v m w h hp
end Go.Proofs.YtmdjoafbckphfaaGreat
