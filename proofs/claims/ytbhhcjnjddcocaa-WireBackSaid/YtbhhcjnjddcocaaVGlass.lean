/- The wire's glass: bytes that are read. Conditions: the text is not too long. -/
import Derived.Test.YtbhhcjnjddcocaaVPen
import Derived.Deep.DeepCutAuto
namespace Go.Proofs.Ytbhhcjnjddcocaa
open Go.RowKit Sl
/-- What is thrown when a text is not as it must be. -/
def brokenV : Value := .iface 61 (.agg #[])
structure Gl (w : World) (gb : Nat) (T : TypeId) (l : List UInt8) : Prop where
  heap : w.heap[gb]? = some (.cells #[.string (ofL l)] T (0, 0))
section
variable {w w' w'' : World} {gb : Nat} {T : TypeId} {l : List UInt8}
theorem Gl.cell (h : Gl w gb T l) : w.cell? ⟨gb, 0, none⟩ = some (.string (ofL l)) := cell_of_row w gb 0 _ _ _ h.heap
theorem Gl.froz (h : Gl w gb T l) : w.frozen? ⟨gb, 0, none⟩ = false := frozen_of_row w gb 0 _ _ h.heap
theorem Gl.ty (h : Gl w gb T l) : TypeB w gb T := ⟨_, _, h.heap⟩
theorem Gl.set (h : Gl w gb T l) (l' : List UInt8) : Gl (w.setCell ⟨gb, 0, none⟩ (.string (ofL l'))) gb T l' ∧ w.grownBy (w.setCell ⟨gb, 0, none⟩ (.string (ofL l'))) (some gb) :=
  ⟨⟨heap_setCell_same w gb 0 _ _ _ h.heap⟩, grown_set w gb 0 _⟩
theorem Gl.next (h : Gl w gb T l) (hb : Below w.heap.size w w') : Gl w' gb T l := ⟨(hb.block gb h.ty.lt).trans h.heap⟩
theorem Gl.kept {row : Option Nat} (h : Gl w gb T l) (hg : w.grownBy w' row) (hn : some gb ≠ row) : Gl w' gb T l := ⟨(hg.block gb h.ty.lt hn).trans h.heap⟩
theorem grown_next {row : Option Nat} (h : w.grownBy w' row) (hb : Below w'.heap.size w' w'') : w.grownBy w'' row :=
  ⟨hb.os.trans h.os, hb.tape.trans h.tape, hb.output.trans h.output, Nat.le_trans h.size hb.size, fun k hk hne => (hb.block k (Nat.lt_of_lt_of_le hk h.size)).trans (h.block k hk hne)⟩
theorem u8_wrap (b : UInt8) : wrap64 (b.toNat : Int) = (b.toNat : Int) := by
  have := b.toNat_lt
  unfold wrap64; omega
end
theorem ofL_size (l : List UInt8) : (ofL l).size = l.length := by rw [← toL_len, toL_ofL]
theorem ofL_to (l : List UInt8) (n : Nat) : (ofL l).extract 0 n = ofL (l.take n) := toL_eq (by rw [toL_ofL]; show toL _ = _; unfold toL; rw [Lib.extract_data]; simp [ofL])
theorem ofL_from (l : List UInt8) (n : Nat) : (ofL l).extract n (ofL l).size = ofL (l.drop n) := toL_eq (by rw [toL_ofL, ofL_size]; unfold toL; rw [Lib.extract_data]; simp [ofL, List.take_of_length_le])
/-- What a function of the glass answers: V of what is read, or it throws. -/
def GOut {α : Type} (V : α → Value → World → Prop) (o : Option (α × List UInt8)) (gb : Nat) (w : World) (e : Ending) (w' : World) : Prop :=
  match o with
  | none => e = .panicked [{ v := brokenV, recovered := false }] ∧ w.grownBy w' (some gb)
  | some (x, r) => (∃ v, e = .returned v ∧ V x v w') ∧ Gl w' gb 53 r ∧ w.grownBy w' (some gb)
set_option maxRecDepth 100000 in
set_option maxHeartbeats 1000000 in
theorem gtext_any (gb : Nat) (l : List UInt8) (n : Nat) (w : World) (h : Gl w gb 53 l) (hn : n ≤ 100000) :
    Calls Try.prog 21 #[.pointer (some ⟨gb, 0, none⟩), .int .i64 n] w (GOut (fun x v _ => v = .string (ofL x)) (pText n l) gb w) := by
  have c := h.cell
  have f := h.froz
  have hs := ofL_size l
  by_cases hn : n ≤ l.length
  · have E1 := Lib.hid (ofL_to l n)
    have E2 := Lib.hid (ofL_from l n)
    have R := Lib.hid (show pText n l = some (l.take n, l.drop n) from if_pos hn)
    have S := Lib.hid (h.set (l.drop n))
    rw [← hs] at hn
    clear h hs
    generalize ofL l = s at *
    have e0 : (0 : Int) ≤ (n : Int) := by omega
    have e1 : (n : Int) ≤ (s.size : Int) := by omega
    go_enter Try.func21, Try.ntmps21
    go_wp2_with fail
    go_ret
    have S1 := S.out
    rw [← E2.out] at S1
    rw [R.out]
    exact ⟨⟨_, rfl, congrArg Value.string E1.out⟩, S1.1, S1.2⟩
  · have R := Lib.hid (show pText n l = none from if_neg hn)
    rw [← hs] at hn
    clear h hs
    generalize ofL l = s at *
    have e1 : (s.size : Int) < (n : Int) := by omega
    go_enter Try.func21, Try.ntmps21
    go_wp2_with fail
    rw [R.out]
    exact ⟨rfl, rfl, World.grownBy.refl w _⟩
set_option maxRecDepth 100000 in
set_option maxHeartbeats 1000000 in
theorem gnum_any (gb : Nat) (l : List UInt8) (w : World) (h : Gl w gb 53 l) :
    Calls Try.prog 19 #[.pointer (some ⟨gb, 0, none⟩)] w (GOut (fun x v _ => v = .int .i64 (x : Nat)) (pNum l) gb w) := by
  have K := Lib.hid (gtext_any gb l 1 w h (by decide))
  clear h
  go_enter Try.func19, Try.ntmps19
  go_wp2_with fail
  cases l with
  | nil =>
    refine K.out.mono ?_
    rintro e w2 ⟨rfl, hg⟩
    exact ⟨rfl, rfl, hg⟩
  | cons b r =>
    refine K.out.mono ?_
    rintro e w2 ⟨⟨v, rfl, rfl⟩, hG, hg⟩
    have hs1 : (ofL ((b :: r).take 1)).size = 1 := rfl
    simp only [List.take_succ_cons, List.take_zero] at hs1 ⊢
    go_wp2_with fail
    go_ret
    exact ⟨⟨_, rfl, congrArg (Value.int .i64) (u8_wrap b)⟩, hG, hg⟩
/-- A row of numbers of the call's own. -/
def IntsV (base : Nat) (x : List Int) (v : Value) (w : World) : Prop := ∃ A c, v = .slice A x.length c ∧ w.ownsRow base 3 1 (.slice A x.length c) x.length (ints x) ∧ x.length ≤ c ∧ c ≤ maxLen
set_option maxRecDepth 100000 in
set_option maxHeartbeats 1000000 in
theorem glist_any (gb : Nat) (l : List UInt8) (n : Nat) (w : World) (h : Gl w gb 53 l) (hn : n ≤ 100000) :
    Calls Try.prog 38 #[.pointer (some ⟨gb, 0, none⟩), .int .i64 n] w (GOut (IntsV w.heap.size) (pList n l) gb w) := by
  obtain ⟨i0, hi0, hz0, hz1, hz2⟩ := info_parts Try.infoInt
  have K := Lib.hid (gtext_any gb l n w h hn)
  by_cases hl : n ≤ l.length
  · have R := Lib.hid (show pList n l = some ((l.take n).map entB, l.drop n) from if_pos hl)
    have K' := K.out
    rw [show pText n l = some (l.take n, l.drop n) from if_pos hl] at K'
    have K2 := Lib.hid K'
    have hL : (l.take n).length = n := by rw [List.length_take]; omega
    clear K K' h hl
    generalize l.drop n = r at *
    generalize l.take n = u at *
    go_enter Try.func38, Try.ntmps38
    go_wp2_with fail
    refine K2.out.mono ?_
    rintro e w2 ⟨⟨v, rfl, rfl⟩, hG, hg⟩
    have hsz := ofL_size u
    have hcv := run_bytes_of_string (P := Try.prog) w2 9 40 5 (ofL u) Try.underlying9 Try.underlying40 Try.underlying5
    have hcap := grownCap_ge w2 (ofL u).size 0 5
    generalize grownCap w2 (ofL u).size 0 5 = cap at hcv hcap
    have hrow := bytesRow_at (ofL u) cap
    generalize hW : w2.drew.alloc (.cells (bytesRow (ofL u) cap) 5 ((bytesRow (ofL u) cap).size, (bytesRow (ofL u) cap).size + 1)) = W1 at hcv
    have hblk : W1.heap[w2.heap.size]? = some (.cells (bytesRow (ofL u) cap) 5 ((bytesRow (ofL u) cap).size, (bytesRow (ofL u) cap).size + 1)) := by rw [← hW]; exact heap_alloc_new w2.drew _
    have hbw : Below w2.heap.size w2 W1 := by rw [← hW]; exact (Below.refl w2.heap.size w2).drew.alloc (Nat.le_refl _) _
    have hlW : w2.heap.size < W1.heap.size := (Array.getElem?_eq_some_iff.1 hblk).1
    have HC := Lib.hid (show ∀ (k : Nat) (x : UInt8), u[k]? = some x → W1.cell? ⟨w2.heap.size, k, none⟩ = some (.int .u8 (x.toNat : Int)) from by
      intro k x hx
      rw [cell_of_row _ _ _ _ _ _ hblk]
      have hj : k < (ofL u).data.size := by have := (List.getElem?_eq_some_iff.1 hx).1; simpa [ofL] using this
      rw [hrow k hj]
      have h3 := (List.getElem?_eq_some_iff.1 hx).2
      have : (ofL u).data[k] = x := by simpa [ofL] using h3
      rw [this])
    have G1 := Lib.hid (hG.next hbw)
    have g1 := Lib.hid (grown_next hg hbw)
    rw [hsz, hL] at hcv hcap
    clear hrow hblk hW hG hg hsz hbw
    generalize ofL u = s at *
    go_wp2_with fail
    have hw1 := g1.out.size
    go_loopw [5, 13] (fun o i wr => ∃ (k c' : Nat) (A' : Option Addr), k ≤ n ∧ i = .int .i64 k ∧ o = .slice A' k c' ∧ wr.ownsRow W1.heap.size 3 1 (.slice A' k c') k (ints ((u.take k).map entB)) ∧ Below W1.heap.size W1 wr ∧ k ≤ c' ∧ c' ≤ maxLen) (fun _ i _ => n - (intOf i).toNat)
    case atStart => exact ⟨0, 0, none, Nat.zero_le _, rfl, rfl, World.ownsRow_nil _ _ _ _, Below.refl _ _, Nat.le_refl _, by simp⟩
    case round =>
      obtain ⟨k, c', A', hkg, rfl, rfl, ho, hbr, hc1, hc2⟩ := hrel
      by_cases hlt : k < n
      · have hx := List.getElem?_eq_getElem (show k < u.length by omega)
        generalize u[k] = x at hx
        have cx := (hbr.cell (p := ⟨w2.heap.size, k, none⟩) hlW).trans (HC.out k x hx)
        have HG := Lib.hid (show ints ((u.take (k + 1)).map entB) = ints ((u.take k).map entB) ++ [.int .i64 (entB x)] from by rw [List.take_add_one, hx]; simp [ints])
        have e0 : (0 : Int) ≤ (k : Int) := by omega
        have e1 : (k : Int) < (n : Int) := by omega
        obtain ⟨A2, c2, w4, q1, q2, q3, q4, q5, q6, _⟩ := app_one (P := Try.prog) wr W1.heap.size 22 22 3 i0 _ 1 8 Try.underlying22 hi0 hz0 hz1 hz2 rfl (by omega) _ _ _ ho #[.int .i64 (entB x)] rfl
          (by intro u hu; simp at hu; subst hu; rfl) (by omega) (by unfold maxLen; omega) hbr.size
        have HR := Lib.hid q1
        have HO2 := Lib.hid q2
        have HB4 := Lib.hid (hbr.trans q3)
        have hw := u8_wrap x
        clear q1 q2 q3 q6 ho hx
        cases hB : ((x.toNat : Int) == 255)
        · have hE : entB x = (x.toNat : Int) := by unfold entB; rw [if_neg (fun e => by subst e; simp at hB)]
          rw [hE] at HR HO2 HG
          go_wp2_with (at_builtin; refine wpList_app rfl _ _ _ _ rfl rfl rfl rfl HR.out ?_)
          go_roundw
          case rel => exact ⟨k + 1, c2, A2, by omega, by go_num, rfl, by rw [HG.out]; exact HO2.out, HB4.out, q4, q5⟩
          case measure => simp [intOf]; omega
        · have hE : entB x = -1 := by unfold entB; rw [if_pos (UInt8.toNat_inj.1 (by have : (255 : UInt8).toNat = 255 := rfl; simp at hB; omega))]
          rw [hE] at HR HO2 HG
          go_wp2_with (at_builtin; refine wpList_app rfl _ _ _ _ rfl rfl rfl rfl HR.out ?_)
          go_roundw
          case rel => exact ⟨k + 1, c2, A2, by omega, by go_num, rfl, by rw [HG.out]; exact HO2.out, HB4.out, q4, q5⟩
          case measure => simp [intOf]; omega
      · obtain rfl : k = n := by omega
        rw [List.take_of_length_le (by omega)] at ho
        have G3 := Lib.hid (G1.out.next hbr)
        have g3 := Lib.hid (grown_next g1.out hbr)
        go_wp2_with fail
        go_ret
        rw [R.out]
        have hl : (u.map entB).length = k := by rw [List.length_map, hL]
        exact ⟨⟨_, rfl, A', c', by rw [hl]; rfl, by rw [hl]; exact own_base ho hw1, by rw [hl]; exact hc1, hc2⟩, G3.out, g3.out⟩
  · have R := Lib.hid (show pList n l = none from if_neg hl)
    have K' := K.out
    rw [show pText n l = none from if_neg hl] at K'
    have K2 := Lib.hid K'
    clear K K' h
    go_enter Try.func38, Try.ntmps38
    go_wp2_with fail
    refine K2.out.mono ?_
    rintro e w2 ⟨rfl, hg⟩
    exact ⟨rfl, by rw [R.out]; exact ⟨rfl, hg⟩⟩
/-- A slot that is read: its table is the call's own. -/
def SlotG (base : Nat) (x : Slot) (v : Value) (w : World) : Prop :=
  ∃ A c, v = .agg #[.int .i64 x.kind, .string x.data, .slice A x.table.length c] ∧ w.ownsRow base 3 1 (.slice A x.table.length c) x.table.length (ints x.table) ∧ x.table.length ≤ c ∧ c ≤ maxLen
theorem grown_setNew {w w' : World} {row : Option Nat} {b : Nat} (h : w.grownBy w' row) (hb : w.heap.size ≤ b) (j : Nat) (v : Value) : w.grownBy (w'.setCell ⟨b, j, none⟩ v) row :=
  have g := grown_set w' b j v
  ⟨g.os.trans h.os, g.tape.trans h.tape, g.output.trans h.output, Nat.le_trans h.size g.size, fun k hk hne => (g.block k (Nat.lt_of_lt_of_le hk h.size) (fun e => by injection e with e; omega)).trans (h.block k hk hne)⟩
theorem own_grown {w w' : World} {base size n b : Nat} {e T : TypeId} {v : Value} {xs : List Value} (h : w.ownsRow base e size v n xs) (hg : w.grownBy w' (some b)) (ht : TypeB w b T) (hne : T ≠ e) : w'.ownsRow base e size v n xs := h.kept hg (own_far h ht hne)
abbrev zS : Obj := .cells #[.int .i64 0, .string { data := #[] }, .slice none 0 0] 45
theorem threeC {w : World} {a : Nat} {p q t : Value} {T : TypeId} {fz : Nat × Nat} (h : w.heap[a]? = some (.cells #[p, q, t] T fz)) (u0 u1 u2 : Value) :
    (((w.setCell ⟨a, 0, none⟩ u0).setCell ⟨a, 1, none⟩ u1).setCell ⟨a, 2, none⟩ u2).cell? ⟨a, 0, none⟩ = some u0 ∧ (((w.setCell ⟨a, 0, none⟩ u0).setCell ⟨a, 1, none⟩ u1).setCell ⟨a, 2, none⟩ u2).cell? ⟨a, 1, none⟩ = some u1 ∧
    (((w.setCell ⟨a, 0, none⟩ u0).setCell ⟨a, 1, none⟩ u1).setCell ⟨a, 2, none⟩ u2).cell? ⟨a, 2, none⟩ = some u2 := by
  have y0 := cell_of_row _ _ 0 _ _ _ h
  have y1 := cell_of_row _ _ 1 _ _ _ h
  have y2 := cell_of_row _ _ 2 _ _ _ h
  simp only [List.getElem?_toArray, List.getElem?_cons_zero, List.getElem?_cons_succ] at y0 y1 y2
  refine ⟨?_, ?_, ?_⟩ <;> go_simp
/-- Three cells of a new block stored. -/
theorem fin3 {w w4 : World} {gb a : Nat} {T : TypeId} {r : List UInt8} (g4 : w.grownBy w4 (some gb)) (hG : Gl w4 gb T r) (ha : w.heap.size ≤ a) (hgl : gb < w.heap.size) (u0 u1 u2 : Value) :
    Gl (((w4.setCell ⟨a, 0, none⟩ u0).setCell ⟨a, 1, none⟩ u1).setCell ⟨a, 2, none⟩ u2) gb T r ∧ w.grownBy (((w4.setCell ⟨a, 0, none⟩ u0).setCell ⟨a, 1, none⟩ u1).setCell ⟨a, 2, none⟩ u2) (some gb) := by
  have hn : some gb ≠ some a := fun e => by injection e; omega
  exact ⟨((hG.kept (grown_set _ a 0 u0) hn).kept (grown_set _ a 1 u1) hn).kept (grown_set _ a 2 u2) hn, grown_setNew (grown_setNew (grown_setNew g4 ha 0 u0) ha 1 u1) ha 2 u2⟩
set_option maxRecDepth 100000 in
set_option maxHeartbeats 1000000 in
theorem gslot_any (gb : Nat) (l : List UInt8) (w : World) (h : Gl w gb 53 l) :
    Calls Try.prog 20 #[.pointer (some ⟨gb, 0, none⟩)] w (GOut (SlotG w.heap.size) (pSlot l) gb w) := by
  have hgl := h.ty.lt
  have B1 := below1 w zS
  have G1 := h.next B1
  have Z1 := heap_alloc_new w zS
  have s1 : (w.alloc zS).heap.size = w.heap.size + 1 := World.size_alloc _ _
  have K := Lib.hid (gnum_any gb l _ G1)
  have g1 := grown_next (World.grownBy.refl w (some gb)) B1
  clear h G1 B1
  unfold zS at *
  go_enter Try.func20, Try.ntmps20
  go_wp2_with fail
  generalize (w.alloc (.cells #[.int .i64 0, .string { data := #[] }, .slice none 0 0] 45)) = w1 at *
  cases l with
  | nil =>
    refine K.out.mono ?_
    rintro e w2 ⟨rfl, hg⟩
    exact ⟨rfl, rfl, g1.trans hg⟩
  | cons b r =>
    refine K.out.mono ?_
    rintro e w2 ⟨⟨v, rfl, rfl⟩, hG, hg⟩
    have g2 := g1.trans hg
    have Z2 := (hg.block w.heap.size (by omega) (fun e => by injection e; omega)).trans Z1
    have s2 := hg.size
    have B3 := below1 w2 (.cells #[.int .i64 (b.toNat : Int), .string { data := #[] }, .slice none 0 0] 45)
    have G3 := hG.next B3
    have g3 := grown_next g2 B3
    have Z3 := (B3.block w.heap.size (by omega)).trans Z2
    have X3 := heap_alloc_new w2 (.cells #[.int .i64 (b.toNat : Int), .string { data := #[] }, .slice none 0 0] 45)
    have s3 : (w2.alloc (.cells #[.int .i64 (b.toNat : Int), .string { data := #[] }, .slice none 0 0] 45)).heap.size = w2.heap.size + 1 := World.size_alloc _ _
    have x0 := cell_of_row _ _ 0 _ _ _ X3
    clear B3 hG hg K g2 g1 Z1 Z2
    have KT := Lib.hid (gtext_any gb r 4 _ G3 (by decide))
    have KL := Lib.hid (glist_any gb r 4 _ G3 (by decide))
    have G3 := Lib.hid G3
    generalize hK : (b.toNat : Int) = K at *
    cases h1 : (K == 1)
    · cases h2 : (K == 2)
      · have hb1 : ¬ b.toNat = 1 := fun e => by
          rw [show K = 1 from by omega] at h1
          cases h1
        have hb2 : ¬ b.toNat = 2 := fun e => by
          rw [show K = 2 from by omega] at h2
          cases h2
        have R := Lib.hid (show pSlot (b :: r) = some (⟨K, ByteArray.empty, []⟩, r) from by simp only [pSlot]; rw [if_neg hb1, if_neg hb2, hK])
        clear KT KL hK hb1 hb2
        have X0 := X3
        have y0 := x0
        have y1 := cell_of_row _ _ 1 _ _ _ X3
        have y2 := cell_of_row _ _ 2 _ _ _ X3
        have z0 := cell_of_row _ _ 0 _ _ _ Z3
        have z1 := cell_of_row _ _ 1 _ _ _ Z3
        have z2 := cell_of_row _ _ 2 _ _ _ Z3
        have k0 := frozen_of_row _ _ 0 _ _ Z3
        have k1 := frozen_of_row _ _ 1 _ _ Z3
        have k2 := frozen_of_row _ _ 2 _ _ Z3
        simp only [List.getElem?_toArray, List.getElem?_cons_zero, List.getElem?_cons_succ] at y0 y1 y2 z0 z1 z2
        clear x0 X0 X3
        go_upto_region 7 with fail
        generalize (w2.alloc (.cells #[.int .i64 K, .string { data := #[] }, .slice none 0 0] 45)) = w3 at *
        go_wp2_with fail
        have F2 := fin3 g3 G3.out (Nat.le_refl _) hgl (.int .i64 K) (.string { data := #[] }) (.slice none 0 0)
        have F3 := threeC Z3 (.int .i64 K) (.string { data := #[] }) (.slice none 0 0)
        generalize (((w3.setCell ⟨w.heap.size, 0, none⟩ (.int .i64 K)).setCell ⟨w.heap.size, 1, none⟩ (.string { data := #[] })).setCell ⟨w.heap.size, 2, none⟩ (.slice none 0 0)) = W at *
        obtain ⟨c0, c1, c2⟩ := F3
        refine bodyPost_ret (v := .agg #[.int .i64 K, .string { data := #[] }, .slice none 0 0]) ?_ rfl ?_
        · simp [results, Try.results20, go_sem, c0, c1, c2]
        · rw [R.out]
          exact ⟨⟨_, rfl, none, 0, rfl, World.ownsRow_nil _ _ _ _, Nat.le_refl _, by decide⟩, F2.1, F2.2⟩
      · obtain rfl : K = 2 := by simpa using h2
        have hb : b.toNat = 2 := by omega
        have hb1 : ¬ b.toNat = 1 := by omega
        clear hK h2 h1
        by_cases h4 : 4 ≤ r.length
        · have R := Lib.hid (show pSlot (b :: r) = some (⟨2, ByteArray.empty, (r.take 4).map entB⟩, r.drop 4) from by simp only [pSlot]; rw [if_neg hb1, if_pos hb, if_pos h4])
          have KL' := KL.out
          rw [show pList 4 r = some ((r.take 4).map entB, r.drop 4) from if_pos h4] at KL'
          have KU := Lib.hid KL'
          clear KT KL KL' h4 hb1
          go_wp2_with fail
          generalize (w2.alloc (.cells #[.int .i64 2, .string { data := #[] }, .slice none 0 0] 45)) = w3 at *
          generalize (r.take 4).map entB = x at *
          refine KU.out.mono ?_
          rintro e w4 ⟨⟨v, rfl, A, c, rfl, ho, hc1, hc2⟩, hG, hg⟩
          have s4 := hg.size
          have X4 := (hg.block w2.heap.size (by omega) (fun e => by injection e; omega)).trans X3
          have Z4 := (hg.block w.heap.size (by omega) (fun e => by injection e; omega)).trans Z3
          have y0 := cell_of_row _ _ 0 _ _ _ X4
          have y1 := cell_of_row _ _ 1 _ _ _ X4
          have y2 := cell_of_row _ _ 2 _ _ _ X4
          have f1 := frozen_of_row _ _ 2 _ _ X4
          have z0 := cell_of_row _ _ 0 _ _ _ Z4
          have z1 := cell_of_row _ _ 1 _ _ _ Z4
          have z2 := cell_of_row _ _ 2 _ _ _ Z4
          have k0 := frozen_of_row _ _ 0 _ _ Z4
          have k1 := frozen_of_row _ _ 1 _ _ Z4
          have k2 := frozen_of_row _ _ 2 _ _ Z4
          have g4 := g3.trans hg
          clear X3 Z3 x0 KU
          have hne : w.heap.size ≠ w2.heap.size := by omega
          simp only [List.getElem?_toArray, List.getElem?_cons_zero, List.getElem?_cons_succ] at y0 y1 y2 z0 z1 z2
          go_wp2_with fail
          have TX : TypeB w4 w2.heap.size 45 := ⟨_, _, X4⟩
          have gx := grown_set w4 w2.heap.size 2 (.slice A x.length c)
          have F1 := hG.kept gx (fun e => by injection e; omega)
          have F2 := fin3 (grown_setNew g4 (by omega) 2 (.slice A x.length c)) F1 (Nat.le_refl _) hgl (.int .i64 2) (.string { data := #[] }) (.slice A x.length c)
          have Z5 := (gx.block w.heap.size (by omega) (fun e => by injection e; omega)).trans Z4
          have F3 := threeC Z5 (.int .i64 2) (.string { data := #[] }) (.slice A x.length c)
          have T5 : TypeB (w4.setCell ⟨w2.heap.size, 2, none⟩ (.slice A x.length c)) w.heap.size 45 := ⟨_, _, Z5⟩
          have o5 := own_grown ho gx TX (by decide)
          have o6 := own_grown o5 (grown_set _ w.heap.size 0 (.int .i64 2)) T5 (by decide)
          have T6 : TypeB ((w4.setCell ⟨w2.heap.size, 2, none⟩ (.slice A x.length c)).setCell ⟨w.heap.size, 0, none⟩ (.int .i64 2)) w.heap.size 45 := ⟨_, _, heap_setCell_same _ _ 0 _ _ _ Z5⟩
          have o7 := own_grown o6 (grown_set _ w.heap.size 1 (.string { data := #[] })) T6 (by decide)
          have T7 : TypeB (((w4.setCell ⟨w2.heap.size, 2, none⟩ (.slice A x.length c)).setCell ⟨w.heap.size, 0, none⟩ (.int .i64 2)).setCell ⟨w.heap.size, 1, none⟩ (.string { data := #[] })) w.heap.size 45 := ⟨_, _, heap_setCell_same _ _ 1 _ _ _ (heap_setCell_same _ _ 0 _ _ _ Z5)⟩
          have o8 := own_base (own_grown o7 (grown_set _ w.heap.size 2 (.slice A x.length c)) T7 (by decide)) (show w.heap.size ≤ w3.heap.size by omega)
          generalize ((((w4.setCell ⟨w2.heap.size, 2, none⟩ (.slice A x.length c)).setCell ⟨w.heap.size, 0, none⟩ (.int .i64 2)).setCell ⟨w.heap.size, 1, none⟩ (.string { data := #[] })).setCell ⟨w.heap.size, 2, none⟩ (.slice A x.length c)) = W at *
          obtain ⟨c0, c1, c2⟩ := F3
          refine bodyPost_ret (v := .agg #[.int .i64 2, .string { data := #[] }, .slice A x.length c]) ?_ rfl ?_
          · simp [results, Try.results20, go_sem, c0, c1, c2]
          · rw [R.out]
            exact ⟨⟨_, rfl, A, c, rfl, o8, hc1, hc2⟩, F2.1, F2.2⟩
        · have R := Lib.hid (show pSlot (b :: r) = none from by simp only [pSlot]; rw [if_neg hb1, if_pos hb, if_neg h4])
          have KL' := KL.out
          rw [show pList 4 r = none from if_neg h4] at KL'
          have KU := Lib.hid KL'
          clear KT KL KL' h4 hb1
          go_wp2_with fail
          generalize (w2.alloc (.cells #[.int .i64 2, .string { data := #[] }, .slice none 0 0] 45)) = w3 at *
          refine KU.out.mono ?_
          rintro e w4 ⟨rfl, hg⟩
          exact ⟨rfl, by rw [R.out]; exact ⟨rfl, g3.trans hg⟩⟩
    · obtain rfl : K = 1 := by simpa using h1
      have hb : b.toNat = 1 := by omega
      clear hK h1
      by_cases h4 : 4 ≤ r.length
      · have R := Lib.hid (show pSlot (b :: r) = some (⟨1, ofL (r.take 4), []⟩, r.drop 4) from by simp only [pSlot]; rw [if_pos hb, if_pos h4])
        have KT' := KT.out
        rw [show pText 4 r = some (r.take 4, r.drop 4) from if_pos h4] at KT'
        have KU := Lib.hid KT'
        clear KT KL KT' h4
        go_wp2_with fail
        generalize (w2.alloc (.cells #[.int .i64 1, .string { data := #[] }, .slice none 0 0] 45)) = w3 at *
        refine KU.out.mono ?_
        rintro e w4 ⟨⟨v, rfl, rfl⟩, hG, hg⟩
        have s4 := hg.size
        have X4 := (hg.block w2.heap.size (by omega) (fun e => by injection e; omega)).trans X3
        have Z4 := (hg.block w.heap.size (by omega) (fun e => by injection e; omega)).trans Z3
        have y0 := cell_of_row _ _ 0 _ _ _ X4
        have y1 := cell_of_row _ _ 1 _ _ _ X4
        have y2 := cell_of_row _ _ 2 _ _ _ X4
        have f1 := frozen_of_row _ _ 1 _ _ X4
        have z0 := cell_of_row _ _ 0 _ _ _ Z4
        have z1 := cell_of_row _ _ 1 _ _ _ Z4
        have z2 := cell_of_row _ _ 2 _ _ _ Z4
        have k0 := frozen_of_row _ _ 0 _ _ Z4
        have k1 := frozen_of_row _ _ 1 _ _ Z4
        have k2 := frozen_of_row _ _ 2 _ _ Z4
        have g4 := g3.trans hg
        clear X3 Z3 x0 KU
        have hne : w.heap.size ≠ w2.heap.size := by omega
        generalize ofL (r.take 4) = d at *
        simp only [List.getElem?_toArray, List.getElem?_cons_zero, List.getElem?_cons_succ] at y0 y1 y2 z0 z1 z2
        go_wp2_with fail
        have F1 := hG.kept (grown_set w4 w2.heap.size 1 (.string d)) (fun e => by injection e; omega)
        have F2 := fin3 (grown_setNew g4 (by omega) 1 (.string d)) F1 (Nat.le_refl _) hgl (.int .i64 1) (.string d) (.slice none 0 0)
        have F3 := threeC (((grown_set w4 w2.heap.size 1 (.string d)).block w.heap.size (by omega) (fun e => by injection e; omega)).trans Z4) (.int .i64 1) (.string d) (.slice none 0 0)
        generalize ((((w4.setCell ⟨w2.heap.size, 1, none⟩ (.string d)).setCell ⟨w.heap.size, 0, none⟩ (.int .i64 1)).setCell ⟨w.heap.size, 1, none⟩ (.string d)).setCell ⟨w.heap.size, 2, none⟩ (.slice none 0 0)) = W at *
        obtain ⟨c0, c1, c2⟩ := F3
        refine bodyPost_ret (v := .agg #[.int .i64 1, .string d, .slice none 0 0]) ?_ rfl ?_
        · simp [results, Try.results20, go_sem, c0, c1, c2]
        · rw [R.out]
          exact ⟨⟨_, rfl, none, 0, rfl, World.ownsRow_nil _ _ _ _, Nat.le_refl _, by decide⟩, F2.1, F2.2⟩
      · have R := Lib.hid (show pSlot (b :: r) = none from by simp only [pSlot]; rw [if_pos hb, if_neg h4])
        have KT' := KT.out
        rw [show pText 4 r = none from if_neg h4] at KT'
        have KU := Lib.hid KT'
        clear KT KL KT' h4
        go_wp2_with fail
        generalize (w2.alloc (.cells #[.int .i64 1, .string { data := #[] }, .slice none 0 0] 45)) = w3 at *
        refine KU.out.mono ?_
        rintro e w4 ⟨rfl, hg⟩
        exact ⟨rfl, by rw [R.out]; exact ⟨rfl, g3.trans hg⟩⟩
set_option maxRecDepth 100000 in
set_option maxHeartbeats 1000000 in
theorem groot_any (gb : Nat) (l : List UInt8) (g : Nat) (w : World) (h : Gl w gb 53 l) (hg : g ≤ 1000) :
    Calls Try.prog 22 #[.pointer (some ⟨gb, 0, none⟩), .int .i64 g] w (GOut (IntsV w.heap.size) (pList (nWants g) l) gb w) := by
  have hw : wants (g : Int) = (nWants g : Nat) := by unfold wants nWants; omega
  have K := Lib.hid (glist_any gb l (nWants g) w h (by unfold nWants; omega))
  have KW := Lib.hid (fun W => wants_any (g : Int) W (by omega) (by omega))
  rw [hw] at KW
  generalize nWants g = n at *
  generalize pList n l = o at *
  clear h hw
  go_enter Try.func22, Try.ntmps22
  go_wp2_with (go_at_call 39; refine (KW.out _).mono ?_; rintro e w' ⟨rfl, rfl⟩)
  cases o with
  | none =>
    refine K.out.mono ?_
    rintro e w2 ⟨rfl, hg⟩
    exact ⟨rfl, rfl, hg⟩
  | some y =>
    obtain ⟨x, r⟩ := y
    refine K.out.mono ?_
    rintro e w2 ⟨⟨v, rfl, hv⟩, hG, hg⟩
    go_wp2_with fail
    go_ret
    exact ⟨⟨_, rfl, hv⟩, hG, hg⟩
end Go.Proofs.Ytbhhcjnjddcocaa
