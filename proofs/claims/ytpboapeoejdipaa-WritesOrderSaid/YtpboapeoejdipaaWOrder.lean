/- The law WritesOrder. Conditions: the image is read below the heap's size. (Printed by gen_worder.py.) -/
import Derived.Test.YtpboapeoejdipaaPureZ
import Derived.Test.YtpboapeoejdipaaPureY
import Derived.Test.YtpboapeoejdipaaPureO2
import Derived.Test.YtpboapeoejdipaaReads3
import Derived.Test.YtpboapeoejdipaaSame
namespace Go.Proofs.Ytpboapeoejdipaa
open Go.RowKit Sl
theorem allM_short (m : Img) : (allM m).length ≤ 16 := by
  by_cases h : checkErr m = 0
  · obtain ⟨f1, _⟩ := allM_facts h
    exact (pagesErr_len f1).1
  · unfold allM; rw [if_neg h]; exact Nat.zero_le _
theorem own_strsO {w : World} {base n c : Nat} {A : Option Addr} {l : List ByteArray} (h : w.ownsRow base 9 1 (.slice A n c) n (l.map Value.string)) (hl : l.length ≤ 16) : n ≤ 4611686018427387903 ∧ Rd w w.heap.size 1 A n (l.map Value.string) := ⟨by have := h.1; simp at this; omega, Rd.of_own h⟩
theorem writeE_at {m : Img} (h : checkErr m = 0) {k : Nat} (hk : (k : Int) < m.guest) {pg : ByteArray} (hp : pg.size = 4) :
    (∃ x, writeM m k pg = some x ∧ writeE m (k : Nat) pg = 0 ∧ writeI m (k : Nat) pg = settled x) ∨ (writeM m k pg = none ∧ writeE m (k : Nat) pg = 7) := by
  have hl := look_same h hk
  unfold writeE writeI
  rw [if_pos hl, if_pos hp, if_pos ⟨hl, hp⟩, Int.toNat_natCast]
  cases writeM m k pg with
  | none => exact .inr ⟨rfl, rfl⟩
  | some x => exact .inl ⟨x, rfl, rfl, rfl⟩
/-- Either both are written, or neither, and none is left. -/
theorem fo_order {m : Img} {n k : Int} {one two : ByteArray} (h1 : writeE m n one = 0) (h2 : writeE m k two = 0) (hne : n ≠ k) :
    (writeE (writeI m n one) k two = 0 ∧ writeE (writeI m k two) n one = 0 ∧ checkErr (writeI (writeI m n one) k two) = 0 ∧ checkErr (writeI (writeI m k two) n one) = 0 ∧
      slotsErr (writeI (writeI m n one) k two).slots = 0 ∧ slotsErr (writeI (writeI m k two) n one).slots = 0 ∧ usedN (writeI (writeI m n one) k two).slots = usedN (writeI (writeI m k two) n one).slots ∧ allM (writeI (writeI m n one) k two) = allM (writeI (writeI m k two) n one)) ∨
    (writeE (writeI m n one) k two = 7 ∧ writeE (writeI m k two) n one = 7) := by
  obtain ⟨n', x1, rfl, hn, hp1, hm, hx1, e1, o1, _, _, _⟩ := writes_ok h1
  obtain ⟨k', x2, rfl, hk, hp2, _, hx2, e2, o2, _, _, _⟩ := writes_ok h2
  have sa := write_step hm hn hp1 hx1
  have sb := write_step hm hk hp2 hx2
  obtain ⟨u1, u2, u3⟩ := order_used hm hn hk hp1 hp2 sa sb
  rw [e1, e2]
  have hka : (k' : Int) < (settled x1).guest := by rw [o1.guest]; exact hk
  have hnb : (n' : Int) < (settled x2).guest := by rw [o2.guest]; exact hn
  rcases writeE_at o1.right hka hp2 with ⟨y1, a1, a2, a3⟩ | ⟨a1, a2⟩
  · rcases writeE_at o2.right hnb hp1 with ⟨y2, b1, b2, b3⟩ | ⟨b1, b2⟩
    · obtain ⟨ka, z1, ea, _, _, _, hz1, f1, q1, _, _, _⟩ := writes_ok a2
      obtain ⟨nb, z2, eb, _, _, _, hz2, f2, q2, _, _, _⟩ := writes_ok b2
      have ea : k' = ka := by omega
      have eb : n' = nb := by omega
      subst ea eb
      rw [a1] at hz1
      injection hz1 with hz1
      subst hz1
      rw [b1] at hz2
      injection hz2 with hz2
      subst hz2
      have s1 := (sound_of (check_is q1.right).1).slots
      have s2 := (sound_of (check_is q2.right).1).slots
      refine .inl ⟨a2, b2, ?_⟩
      rw [a3, b3]
      refine ⟨q1.right, q2.right, s1, s2, ?_, ?_⟩
      · unfold usedN
        rw [if_pos s1, if_pos s2, u1 _ _ a1 b1]
      · rw [wok_all o1.right q1, wok_all o2.right q2, wok_all hm o1, wok_all hm o2]
        exact List.set_comm _ _ (by omega)
    · exact absurd b1 (u2 _ a1)
  · rcases writeE_at o2.right hnb hp1 with ⟨y2, b1, b2, b3⟩ | ⟨b1, b2⟩
    · exact absurd a1 (u3 _ b1)
    · exact .inr ⟨a2, b2⟩
set_option maxRecDepth 100000 in
set_option maxHeartbeats 8000000 in
theorem law_writesOrder (v : IV) (m : Img) (n : Int) (one : ByteArray) (k : Int) (two : ByteArray) (w : World) (h : ImgR w w.heap.size v m) :
    Calls Try.prog 9 #[.agg #[.int .i64 m.guest, .slice v.rA v.rn v.rc, .slice v.sA v.sn v.sc, .slice v.fA v.fn v.fc, .slice v.pA v.pn v.pc], .int .i64 n, .string one, .int .i64 k, .string two] w fun e w' => e = .returned (.bool true) ∧ Below w.heap.size w w' := by
  have Ka' := fun W (hb : Below w.heap.size w W) => write_any v m n one W (h.next hb) (fun x => write_hw x)
  have Kb' := fun W (hb : Below w.heap.size w W) => write_any v m k two W (h.next hb) (fun x => write_hw x)
  have Kx' := fun W v (h : ImgR W W.heap.size v (writeI m n one)) => write_any v (writeI m n one) k two W h (fun x => write_hw x)
  have Ky' := fun W v (h : ImgR W W.heap.size v (writeI m k two)) => write_any v (writeI m k two) n one W h (fun x => write_hw x)
  have U' := fun hh hh2 hne => fo_order (m := m) (n := n) (k := k) (one := one) (two := two) hh hh2 hne
  have Mx := allM_short (writeI (writeI m n one) k two)
  have My := allM_short (writeI (writeI m k two) n one)
  generalize writeI (writeI m n one) k two = zx at *
  generalize writeE (writeI m n one) k two = ex at *
  generalize writeI (writeI m k two) n one = zy at *
  generalize writeE (writeI m k two) n one = ey at *
  generalize writeI m n one = za at *
  generalize writeE m n one = ea at *
  generalize writeI m k two = zb at *
  generalize writeE m k two = eb at *
  have Px' := fun W v (h : ImgR W W.heap.size v zx) => tAll_any v zx W h
  have Py' := fun W v (h : ImgR W W.heap.size v zy) => tAll_any v zy W h
  have Vx' := fun W v (h : ImgR W W.heap.size v zx) => used_any v.sA v.sn v.sc zx.slots W h.slots h.scap.1
  have Vy' := fun W v (h : ImgR W W.heap.size v zy) => used_any v.sA v.sn v.sc zy.slots W h.slots h.scap.1
  generalize checkErr zx = kx at *
  generalize allM zx = lx at *
  generalize usedN zx.slots = ux at *
  generalize slotsErr zx.slots = qx at *
  generalize checkErr zy = ky at *
  generalize allM zy = ly at *
  generalize usedN zy.slots = uy at *
  generalize slotsErr zy.slots = qy at *
  obtain ⟨rA, rn, rc, sA, sn, sc, fA, fn, fc, pA, pn, pc⟩ := v
  dsimp only [imgV] at Ka' Kb' Kx' Ky' Px' Py' ⊢
  have Ka := Lib.hid Ka'
  have Kb := Lib.hid Kb'
  have Kx := Lib.hid Kx'
  have Ky := Lib.hid Ky'
  have Px := Lib.hid Px'
  have Py := Lib.hid Py'
  have Vx := Lib.hid Vx'
  have Vy := Lib.hid Vy'
  have U := Lib.hid U'
  clear Ka' Kb' Kx' Ky' Px' Py' Vx' Vy' U' h
  have Ca : ea = 0 ∨ (ea == 0) = false ∧ (ea != 0) = true := by
    by_cases hh : ea = 0
    · exact .inl hh
    · right; simpa using hh
  have Cb : eb = 0 ∨ (eb == 0) = false ∧ (eb != 0) = true := by
    by_cases hh : eb = 0
    · exact .inl hh
    · right; simpa using hh
  have C0 : (n == k) = true ∨ (n == k) = false := by cases hh : (n == k) <;> simp
  have T0' := below1 w (.cells #[.int .i64 m.guest, .slice rA rn rc, .slice sA sn sc, .slice fA fn fc, .slice pA pn pc] 26)
  have X0' := Box.new w m.guest ⟨rA, rn, rc, sA, sn, sc, fA, fn, fc, pA, pn, pc⟩ 26
  have L0' : w.heap.size < (w.alloc (.cells #[.int .i64 m.guest, .slice rA rn rc, .slice sA sn sc, .slice fA fn fc, .slice pA pn pc] 26)).heap.size := by simp
  have T := Lib.hid T0'
  have XM := Lib.hid X0'
  have LM := Lib.hid L0'
  clear T0' X0' L0'
  obtain ⟨c1_0, c1_1, c1_2, c1_3, c1_4⟩ := XM.out
  try dsimp only at c1_0 c1_1 c1_2 c1_3 c1_4
  go_enter Try.func9, Try.ntmps9
  clear c1_0 c1_1 c1_2 c1_3 c1_4
  obtain ⟨c2_0, c2_1, c2_2, c2_3, c2_4⟩ := XM.out
  try dsimp only at c2_0 c2_1 c2_2 c2_3 c2_4
  go_wp2_with fail
  generalize (w.alloc (.cells #[.int .i64 m.guest, .slice rA rn rc, .slice sA sn sc, .slice fA fn fc, .slice pA pn pc] 26)) = W3 at *
  refine (Ka.out _ T.out).mono ?_
  rintro e w4 ⟨v, rfl, hF, hb⟩
  clear c2_0 c2_1 c2_2 c2_3 c2_4
  have T' := Lib.hid (below_next T.out hb)
  have XM' := Lib.hid (XM.out.keep hb LM.out)
  have LM' := Lib.hid (Nat.lt_of_lt_of_le LM.out hb.size)
  clear T XM LM hb
  have T := T'
  have XM := XM'
  have LM := LM'
  clear T' XM' LM'
  have hx := Box.new w4 za.guest v 26
  have b1 := below1 w4 (.cells #[.int .i64 za.guest, .slice v.rA v.rn v.rc, .slice v.sA v.sn v.sc, .slice v.fA v.fn v.fc, .slice v.pA v.pn v.pc] 26)
  have hi2 := hF.imgR.next b1
  have hlt : w4.heap.size < (w4.alloc (.cells #[.int .i64 za.guest, .slice v.rA v.rn v.rc, .slice v.sA v.sn v.sc, .slice v.fA v.fn v.fc, .slice v.pA v.pn v.pc] 26)).heap.size := by simp
  have T' := Lib.hid (below_next T.out b1)
  have XM' := Lib.hid (XM.out.keep b1 LM.out)
  have LM' := Lib.hid (Nat.lt_of_lt_of_le LM.out b1.size)
  clear T XM LM b1
  have T := T'
  have XM := XM'
  have LM := LM'
  clear T' XM' LM'
  obtain ⟨arA, arn, arc, asA, asn, asc, afA, afn, afc, apA, apn, apc⟩ := v
  have Ia := Lib.hid hi2
  have Xa := Lib.hid hx
  have La := Lib.hid hlt
  dsimp only [imgV] at Ia Xa La T XM LM ⊢
  clear hF hx hi2 hlt
  clear Ka
  obtain ⟨c5_0, c5_1, c5_2, c5_3, c5_4⟩ := XM.out
  try dsimp only at c5_0 c5_1 c5_2 c5_3 c5_4
  go_wp2_with fail
  generalize (w4.alloc (.cells #[.int .i64 za.guest, .slice arA arn arc, .slice asA asn asc, .slice afA afn afc, .slice apA apn apc] 26)) = W6 at *
  refine (Kb.out _ T.out).mono ?_
  rintro e w7 ⟨v, rfl, hF, hb⟩
  clear c5_0 c5_1 c5_2 c5_3 c5_4
  have T' := Lib.hid (below_next T.out hb)
  have XM' := Lib.hid (XM.out.keep hb LM.out)
  have LM' := Lib.hid (Nat.lt_of_lt_of_le LM.out hb.size)
  have Xa' := Lib.hid (Xa.out.keep hb La.out)
  have La' := Lib.hid (Nat.lt_of_lt_of_le La.out hb.size)
  have Ia' := Lib.hid (Ia.out.next hb)
  clear T XM LM Xa La Ia hb
  have T := T'
  have XM := XM'
  have LM := LM'
  have Xa := Xa'
  have La := La'
  have Ia := Ia'
  clear T' XM' LM' Xa' La' Ia'
  have hx := Box.new w7 zb.guest v 26
  have b1 := below1 w7 (.cells #[.int .i64 zb.guest, .slice v.rA v.rn v.rc, .slice v.sA v.sn v.sc, .slice v.fA v.fn v.fc, .slice v.pA v.pn v.pc] 26)
  have hi2 := hF.imgR.next b1
  have hlt : w7.heap.size < (w7.alloc (.cells #[.int .i64 zb.guest, .slice v.rA v.rn v.rc, .slice v.sA v.sn v.sc, .slice v.fA v.fn v.fc, .slice v.pA v.pn v.pc] 26)).heap.size := by simp
  have T' := Lib.hid (below_next T.out b1)
  have XM' := Lib.hid (XM.out.keep b1 LM.out)
  have LM' := Lib.hid (Nat.lt_of_lt_of_le LM.out b1.size)
  have Xa' := Lib.hid (Xa.out.keep b1 La.out)
  have La' := Lib.hid (Nat.lt_of_lt_of_le La.out b1.size)
  have Ia' := Lib.hid (Ia.out.next b1)
  clear T XM LM Xa La Ia b1
  have T := T'
  have XM := XM'
  have LM := LM'
  have Xa := Xa'
  have La := La'
  have Ia := Ia'
  clear T' XM' LM' Xa' La' Ia'
  obtain ⟨brA, brn, brc, bsA, bsn, bsc, bfA, bfn, bfc, bpA, bpn, bpc⟩ := v
  have Ib := Lib.hid hi2
  have Xb := Lib.hid hx
  have Lb := Lib.hid hlt
  dsimp only [imgV] at Ib Xb Lb T XM LM Xa La Ia ⊢
  clear hF hx hi2 hlt
  clear Kb XM LM
  rcases C0 with h0 | h0
  · go_wp2_with fail
    generalize (w7.alloc (.cells #[.int .i64 zb.guest, .slice brA brn brc, .slice bsA bsn bsc, .slice bfA bfn bfc, .slice bpA bpn bpc] 26)) = W8 at *
    refine (writesBegun_any _).mono ?_
    rintro e w9 ⟨rfl, hb⟩
    have T' := Lib.hid (below_next T.out hb)
    have Xa' := Lib.hid (Xa.out.keep hb La.out)
    have La' := Lib.hid (Nat.lt_of_lt_of_le La.out hb.size)
    have Ia' := Lib.hid (Ia.out.next hb)
    have Xb' := Lib.hid (Xb.out.keep hb Lb.out)
    have Lb' := Lib.hid (Nat.lt_of_lt_of_le Lb.out hb.size)
    have Ib' := Lib.hid (Ib.out.next hb)
    clear T Xa La Ia Xb Lb Ib hb
    have T := T'
    have Xa := Xa'
    have La := La'
    have Ia := Ia'
    have Xb := Xb'
    have Lb := Lb'
    have Ib := Ib'
    clear T' Xa' La' Ia' Xb' Lb' Ib'
    go_wp2_with fail
    go_ret
    exact ⟨rfl, T.out⟩
  · rcases Ca with ha | ⟨ha, ha2⟩
    · rcases Cb with hb' | ⟨hb', hb2⟩
      · have hu := U.out ha hb' (by simpa using h0)
        clear U
        subst ha
        subst hb'
        have U := Lib.hid hu
        clear hu
        obtain ⟨c8_0, c8_1, c8_2, c8_3, c8_4⟩ := Xa.out
        try dsimp only at c8_0 c8_1 c8_2 c8_3 c8_4
        obtain ⟨c9_0, c9_1, c9_2, c9_3, c9_4⟩ := Xb.out
        try dsimp only at c9_0 c9_1 c9_2 c9_3 c9_4
        go_wp2_with fail
        generalize (w7.alloc (.cells #[.int .i64 zb.guest, .slice brA brn brc, .slice bsA bsn bsc, .slice bfA bfn bfc, .slice bpA bpn bpc] 26)) = W10 at *
        refine (Kx.out _ _ Ia.out).mono ?_
        rintro e w11 ⟨v, rfl, hF, hb⟩
        clear c8_0 c8_1 c8_2 c8_3 c8_4 c9_0 c9_1 c9_2 c9_3 c9_4
        have T' := Lib.hid (below_next T.out hb)
        have Xa' := Lib.hid (Xa.out.keep hb La.out)
        have La' := Lib.hid (Nat.lt_of_lt_of_le La.out hb.size)
        have Ia' := Lib.hid (Ia.out.next hb)
        have Xb' := Lib.hid (Xb.out.keep hb Lb.out)
        have Lb' := Lib.hid (Nat.lt_of_lt_of_le Lb.out hb.size)
        have Ib' := Lib.hid (Ib.out.next hb)
        clear T Xa La Ia Xb Lb Ib hb
        have T := T'
        have Xa := Xa'
        have La := La'
        have Ia := Ia'
        have Xb := Xb'
        have Lb := Lb'
        have Ib := Ib'
        clear T' Xa' La' Ia' Xb' Lb' Ib'
        have hx := Box.new w11 zx.guest v 26
        have b1 := below1 w11 (.cells #[.int .i64 zx.guest, .slice v.rA v.rn v.rc, .slice v.sA v.sn v.sc, .slice v.fA v.fn v.fc, .slice v.pA v.pn v.pc] 26)
        have hi2 := hF.imgR.next b1
        have hlt : w11.heap.size < (w11.alloc (.cells #[.int .i64 zx.guest, .slice v.rA v.rn v.rc, .slice v.sA v.sn v.sc, .slice v.fA v.fn v.fc, .slice v.pA v.pn v.pc] 26)).heap.size := by simp
        have T' := Lib.hid (below_next T.out b1)
        have Xa' := Lib.hid (Xa.out.keep b1 La.out)
        have La' := Lib.hid (Nat.lt_of_lt_of_le La.out b1.size)
        have Ia' := Lib.hid (Ia.out.next b1)
        have Xb' := Lib.hid (Xb.out.keep b1 Lb.out)
        have Lb' := Lib.hid (Nat.lt_of_lt_of_le Lb.out b1.size)
        have Ib' := Lib.hid (Ib.out.next b1)
        clear T Xa La Ia Xb Lb Ib b1
        have T := T'
        have Xa := Xa'
        have La := La'
        have Ia := Ia'
        have Xb := Xb'
        have Lb := Lb'
        have Ib := Ib'
        clear T' Xa' La' Ia' Xb' Lb' Ib'
        obtain ⟨xrA, xrn, xrc, xsA, xsn, xsc, xfA, xfn, xfc, xpA, xpn, xpc⟩ := v
        have Ix := Lib.hid hi2
        have Xx := Lib.hid hx
        have Lx := Lib.hid hlt
        dsimp only [imgV] at Ix Xx Lx T Xa La Ia Xb Lb Ib ⊢
        clear hF hx hi2 hlt
        clear Kx
        clear Xa La Ia
        obtain ⟨c12_0, c12_1, c12_2, c12_3, c12_4⟩ := Xb.out
        try dsimp only at c12_0 c12_1 c12_2 c12_3 c12_4
        obtain ⟨c13_0, c13_1, c13_2, c13_3, c13_4⟩ := Xx.out
        try dsimp only at c13_0 c13_1 c13_2 c13_3 c13_4
        go_wp2_with fail
        generalize (w11.alloc (.cells #[.int .i64 zx.guest, .slice xrA xrn xrc, .slice xsA xsn xsc, .slice xfA xfn xfc, .slice xpA xpn xpc] 26)) = W14 at *
        refine (Ky.out _ _ Ib.out).mono ?_
        rintro e w15 ⟨v, rfl, hF, hb⟩
        clear c12_0 c12_1 c12_2 c12_3 c12_4 c13_0 c13_1 c13_2 c13_3 c13_4
        have T' := Lib.hid (below_next T.out hb)
        have Xb' := Lib.hid (Xb.out.keep hb Lb.out)
        have Lb' := Lib.hid (Nat.lt_of_lt_of_le Lb.out hb.size)
        have Ib' := Lib.hid (Ib.out.next hb)
        have Xx' := Lib.hid (Xx.out.keep hb Lx.out)
        have Lx' := Lib.hid (Nat.lt_of_lt_of_le Lx.out hb.size)
        have Ix' := Lib.hid (Ix.out.next hb)
        clear T Xb Lb Ib Xx Lx Ix hb
        have T := T'
        have Xb := Xb'
        have Lb := Lb'
        have Ib := Ib'
        have Xx := Xx'
        have Lx := Lx'
        have Ix := Ix'
        clear T' Xb' Lb' Ib' Xx' Lx' Ix'
        have hx := Box.new w15 zy.guest v 26
        have b1 := below1 w15 (.cells #[.int .i64 zy.guest, .slice v.rA v.rn v.rc, .slice v.sA v.sn v.sc, .slice v.fA v.fn v.fc, .slice v.pA v.pn v.pc] 26)
        have hi2 := hF.imgR.next b1
        have hlt : w15.heap.size < (w15.alloc (.cells #[.int .i64 zy.guest, .slice v.rA v.rn v.rc, .slice v.sA v.sn v.sc, .slice v.fA v.fn v.fc, .slice v.pA v.pn v.pc] 26)).heap.size := by simp
        have T' := Lib.hid (below_next T.out b1)
        have Xb' := Lib.hid (Xb.out.keep b1 Lb.out)
        have Lb' := Lib.hid (Nat.lt_of_lt_of_le Lb.out b1.size)
        have Ib' := Lib.hid (Ib.out.next b1)
        have Xx' := Lib.hid (Xx.out.keep b1 Lx.out)
        have Lx' := Lib.hid (Nat.lt_of_lt_of_le Lx.out b1.size)
        have Ix' := Lib.hid (Ix.out.next b1)
        clear T Xb Lb Ib Xx Lx Ix b1
        have T := T'
        have Xb := Xb'
        have Lb := Lb'
        have Ib := Ib'
        have Xx := Xx'
        have Lx := Lx'
        have Ix := Ix'
        clear T' Xb' Lb' Ib' Xx' Lx' Ix'
        obtain ⟨yrA, yrn, yrc, ysA, ysn, ysc, yfA, yfn, yfc, ypA, ypn, ypc⟩ := v
        have Iy := Lib.hid hi2
        have Xy := Lib.hid hx
        have Ly := Lib.hid hlt
        dsimp only [imgV] at Iy Xy Ly T Xb Lb Ib Xx Lx Ix ⊢
        clear hF hx hi2 hlt
        clear Ky
        clear Xb Lb Ib
        rcases U.out with ⟨hq, hq1, hq2, hq3, hq4, hq7, hq5, hq6⟩ | ⟨hq, hq1⟩
        · have RU := Lib.hid (And.intro hq5 hq6)
          clear hq5 hq6
          subst hq hq1 hq2 hq3 hq4 hq7
          obtain ⟨c16_0, c16_1, c16_2, c16_3, c16_4⟩ := Xx.out
          try dsimp only at c16_0 c16_1 c16_2 c16_3 c16_4
          obtain ⟨c17_0, c17_1, c17_2, c17_3, c17_4⟩ := Xy.out
          try dsimp only at c17_0 c17_1 c17_2 c17_3 c17_4
          go_wp2_with fail
          generalize (w15.alloc (.cells #[.int .i64 zy.guest, .slice yrA yrn yrc, .slice ysA ysn ysc, .slice yfA yfn yfc, .slice ypA ypn ypc] 26)) = W18 at *
          refine (Vx.out _ _ Ix.out).mono ?_
          rintro e w19 ⟨rfl, hb⟩
          clear c16_0 c16_1 c16_2 c16_3 c16_4 c17_0 c17_1 c17_2 c17_3 c17_4
          have T' := Lib.hid (below_next T.out hb)
          have Xx' := Lib.hid (Xx.out.keep hb Lx.out)
          have Lx' := Lib.hid (Nat.lt_of_lt_of_le Lx.out hb.size)
          have Ix' := Lib.hid (Ix.out.next hb)
          have Xy' := Lib.hid (Xy.out.keep hb Ly.out)
          have Ly' := Lib.hid (Nat.lt_of_lt_of_le Ly.out hb.size)
          have Iy' := Lib.hid (Iy.out.next hb)
          clear T Xx Lx Ix Xy Ly Iy hb
          have T := T'
          have Xx := Xx'
          have Lx := Lx'
          have Ix := Ix'
          have Xy := Xy'
          have Ly := Ly'
          have Iy := Iy'
          clear T' Xx' Lx' Ix' Xy' Ly' Iy'
          obtain ⟨c20_0, c20_1, c20_2, c20_3, c20_4⟩ := Xx.out
          try dsimp only at c20_0 c20_1 c20_2 c20_3 c20_4
          obtain ⟨c21_0, c21_1, c21_2, c21_3, c21_4⟩ := Xy.out
          try dsimp only at c21_0 c21_1 c21_2 c21_3 c21_4
          go_wp2_with fail
          refine (Vy.out _ _ Iy.out).mono ?_
          rintro e w22 ⟨rfl, hb⟩
          clear c20_0 c20_1 c20_2 c20_3 c20_4 c21_0 c21_1 c21_2 c21_3 c21_4
          have T' := Lib.hid (below_next T.out hb)
          have Xx' := Lib.hid (Xx.out.keep hb Lx.out)
          have Lx' := Lib.hid (Nat.lt_of_lt_of_le Lx.out hb.size)
          have Ix' := Lib.hid (Ix.out.next hb)
          have Xy' := Lib.hid (Xy.out.keep hb Ly.out)
          have Ly' := Lib.hid (Nat.lt_of_lt_of_le Ly.out hb.size)
          have Iy' := Lib.hid (Iy.out.next hb)
          clear T Xx Lx Ix Xy Ly Iy hb
          have T := T'
          have Xx := Xx'
          have Lx := Lx'
          have Ix := Ix'
          have Xy := Xy'
          have Ly := Ly'
          have Iy := Iy'
          clear T' Xx' Lx' Ix' Xy' Ly' Iy'
          clear Vx Vy
          obtain ⟨c23_0, c23_1, c23_2, c23_3, c23_4⟩ := Xx.out
          try dsimp only at c23_0 c23_1 c23_2 c23_3 c23_4
          obtain ⟨c24_0, c24_1, c24_2, c24_3, c24_4⟩ := Xy.out
          try dsimp only at c24_0 c24_1 c24_2 c24_3 c24_4
          go_wp2_with fail
          refine (Px.out _ _ Ix.out).mono ?_
          rintro e w25 ⟨Ax, nx, cx, rfl, ho, hb, hnc, hcm⟩
          clear c23_0 c23_1 c23_2 c23_3 c23_4 c24_0 c24_1 c24_2 c24_3 c24_4
          have T' := Lib.hid (below_next T.out hb)
          have Xx' := Lib.hid (Xx.out.keep hb Lx.out)
          have Lx' := Lib.hid (Nat.lt_of_lt_of_le Lx.out hb.size)
          have Ix' := Lib.hid (Ix.out.next hb)
          have Xy' := Lib.hid (Xy.out.keep hb Ly.out)
          have Ly' := Lib.hid (Nat.lt_of_lt_of_le Ly.out hb.size)
          have Iy' := Lib.hid (Iy.out.next hb)
          clear T Xx Lx Ix Xy Ly Iy hb
          have T := T'
          have Xx := Xx'
          have Lx := Lx'
          have Ix := Ix'
          have Xy := Xy'
          have Ly := Ly'
          have Iy := Iy'
          clear T' Xx' Lx' Ix' Xy' Ly' Iy'
          have hr := own_strsO ho Mx
          clear ho hnc hcm
          have Rx := Lib.hid hr.2
          have hnx := hr.1
          clear hr
          clear Xx Lx Ix
          obtain ⟨c26_0, c26_1, c26_2, c26_3, c26_4⟩ := Xy.out
          try dsimp only at c26_0 c26_1 c26_2 c26_3 c26_4
          go_wp2_with fail
          refine (Py.out _ _ Iy.out).mono ?_
          rintro e w27 ⟨Ay, ny, cy, rfl, ho, hb, hnc, hcm⟩
          clear c26_0 c26_1 c26_2 c26_3 c26_4
          have T' := Lib.hid (below_next T.out hb)
          have Xy' := Lib.hid (Xy.out.keep hb Ly.out)
          have Ly' := Lib.hid (Nat.lt_of_lt_of_le Ly.out hb.size)
          have Iy' := Lib.hid (Iy.out.next hb)
          have Rx' := Lib.hid (Rx.out.next hb)
          clear T Xy Ly Iy Rx hb
          have T := T'
          have Xy := Xy'
          have Ly := Ly'
          have Iy := Iy'
          have Rx := Rx'
          clear T' Xy' Ly' Iy' Rx'
          have hr := own_strsO ho My
          clear ho hnc hcm
          have Ry := Lib.hid hr.2
          have hny := hr.1
          clear hr
          clear Xy Ly Iy
          clear Px Py
          go_wp2_with fail
          refine (writesBegun_any _).mono ?_
          rintro e w28 ⟨rfl, hb⟩
          have T' := Lib.hid (below_next T.out hb)
          have Rx' := Lib.hid (Rx.out.next hb)
          have Ry' := Lib.hid (Ry.out.next hb)
          clear T Rx Ry hb
          have T := T'
          have Rx := Rx'
          have Ry := Ry'
          clear T' Rx' Ry'
          obtain ⟨rfl, rfl⟩ := RU.out
          go_wp2_with fail
          refine (samePages_any Ax Ay _ _ cx cy _ _ _ Rx.out Ry.out hnx hny).mono ?_
          rintro e w29 ⟨rfl, hb⟩
          have T' := Lib.hid (below_next T.out hb)
          have Rx' := Lib.hid (Rx.out.next hb)
          have Ry' := Lib.hid (Ry.out.next hb)
          clear T Rx Ry hb
          have T := T'
          have Rx := Rx'
          have Ry := Ry'
          clear T' Rx' Ry'
          go_wp2_with fail
          go_ret
          exact ⟨rfl, T.out⟩
        · subst hq hq1
          clear Xx Lx Ix
          clear Xy Ly Iy
          go_wp2_with fail
          generalize (w15.alloc (.cells #[.int .i64 zy.guest, .slice yrA yrn yrc, .slice ysA ysn ysc, .slice yfA yfn yfc, .slice ypA ypn ypc] 26)) = W16 at *
          refine (writesBegun_any _).mono ?_
          rintro e w17 ⟨rfl, hb⟩
          have T' := Lib.hid (below_next T.out hb)
          clear T hb
          have T := T'
          clear T'
          go_wp2_with fail
          go_ret
          exact ⟨rfl, T.out⟩
      · go_wp2_with fail
        generalize (w7.alloc (.cells #[.int .i64 zb.guest, .slice brA brn brc, .slice bsA bsn bsc, .slice bfA bfn bfc, .slice bpA bpn bpc] 26)) = W8 at *
        refine (writesBegun_any _).mono ?_
        rintro e w9 ⟨rfl, hb⟩
        have T' := Lib.hid (below_next T.out hb)
        have Xa' := Lib.hid (Xa.out.keep hb La.out)
        have La' := Lib.hid (Nat.lt_of_lt_of_le La.out hb.size)
        have Ia' := Lib.hid (Ia.out.next hb)
        have Xb' := Lib.hid (Xb.out.keep hb Lb.out)
        have Lb' := Lib.hid (Nat.lt_of_lt_of_le Lb.out hb.size)
        have Ib' := Lib.hid (Ib.out.next hb)
        clear T Xa La Ia Xb Lb Ib hb
        have T := T'
        have Xa := Xa'
        have La := La'
        have Ia := Ia'
        have Xb := Xb'
        have Lb := Lb'
        have Ib := Ib'
        clear T' Xa' La' Ia' Xb' Lb' Ib'
        go_wp2_with fail
        go_ret
        exact ⟨rfl, T.out⟩
    · go_wp2_with fail
      generalize (w7.alloc (.cells #[.int .i64 zb.guest, .slice brA brn brc, .slice bsA bsn bsc, .slice bfA bfn bfc, .slice bpA bpn bpc] 26)) = W8 at *
      refine (writesBegun_any _).mono ?_
      rintro e w9 ⟨rfl, hb⟩
      have T' := Lib.hid (below_next T.out hb)
      have Xa' := Lib.hid (Xa.out.keep hb La.out)
      have La' := Lib.hid (Nat.lt_of_lt_of_le La.out hb.size)
      have Ia' := Lib.hid (Ia.out.next hb)
      have Xb' := Lib.hid (Xb.out.keep hb Lb.out)
      have Lb' := Lib.hid (Nat.lt_of_lt_of_le Lb.out hb.size)
      have Ib' := Lib.hid (Ib.out.next hb)
      clear T Xa La Ia Xb Lb Ib hb
      have T := T'
      have Xa := Xa'
      have La := La'
      have Ia := Ia'
      have Xb := Xb'
      have Lb := Lb'
      have Ib := Ib'
      clear T' Xa' La' Ia' Xb' Lb' Ib'
      go_wp2_with fail
      go_ret
      exact ⟨rfl, T.out⟩
end Go.Proofs.Ytpboapeoejdipaa
