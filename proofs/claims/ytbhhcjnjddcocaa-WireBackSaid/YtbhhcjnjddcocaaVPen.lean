/- The wire's pen: bytes that are appended. Conditions: the pen's row is the call's own, and not too long. -/
import Derived.Test.YtbhhcjnjddcocaaPureV
import Derived.Test.YtbhhcjnjddcocaaOwnP
import Derived.Lib.AppendStr
import Derived.Laws.IdiomStrings
namespace Go.Proofs.Ytbhhcjnjddcocaa
open Go.RowKit Sl
/-- An append of another type whose run is known. -/
theorem wpList_appT {P : Program} {w : World} {ops : Array Oper} {rest : List Oper} {o : Oper} {a : Act} {Q : Exit → Act → World → Prop} (hgd : o.guard = none) (s x : Operand) (t t2 ty : TypeId)
    (ho : o.op = .call { callee := .builtin .append, args := #[s, x], argTypes := #[t, t2] }) (hty : o.type = ty) {v y v' : Value} {w' : World} (hs : a.eval s = v) (hx : a.eval x = y)
    (hrun : (Builtin.append_ #[t, t2] ty #[v, y]).run P w = .ok v' w') (h : wpList P ops Q rest (a.put o.dst v') w') : wpList P ops Q (o :: rest) a w :=
  wpList_plain hgd fun _ hK => by
    subst hty
    unfold Oper.wp execOp
    simp only [ho, resolve, invoke, builtin, Sem.run_bind, Sem.run_pure, Result.andThen_ok, List.map_toArray, List.map_cons, List.map_nil, hs, hx, hrun]
    exact hK _ _ h
/-- The same at an order's last step. -/
theorem step_appV {P : Program} {W : World} {ops : Array Oper} {o : Oper} {a : Act} {K : Act → World → Prop} {Q : Exit → Act → World → Prop} {E : Prop} (hgd : o.guard = none) (s x : Operand) (t tn ty : TypeId)
    (ho : o.op = .call { callee := .builtin .append, args := #[s, x], argTypes := #[t, tn] }) (hty : o.type = ty) {v y v' : Value} {w' : World} (hs : a.eval s = v) (hx : a.eval x = y)
    (hrun : (Builtin.append_ #[t, tn] ty #[v, y]).run P W = .ok v' w') (h : K (a.put o.dst v') w') : if Region.wanted o (yielded ops a.tmps) = true then Oper.wp P o a W K Q else E := by
  have hw : Region.wanted o (yielded ops a.tmps) = true := by simp [Region.wanted, hgd]
  rw [if_pos hw]
  subst hty
  unfold Oper.wp execOp
  simp only [ho, resolve, invoke, builtin, Sem.run_bind, Sem.run_pure, Result.andThen_ok, List.map_toArray, List.map_cons, List.map_nil, hs, hx, hrun]
  exact h
theorem toL_nil {s : ByteArray} (h : s.toList = []) : toL s = [] := by rw [ByteArray.toList_eq] at h; exact h
theorem ofL_empty : (ofL []).toList.isEmpty = true := by rw [ByteArray.toList_eq]; rfl
theorem byteOf_mod (n : Int) : ((byteOf n).toNat : Int) = n % 256 := by
  unfold byteOf
  rw [UInt8.toNat_ofNat']
  omega
theorem Try.infoU8 : (Try.prog.info? 5).map (fun i => (i.zero, i.size, i.bytes)) = some (some (.int .u8 0), 1, 1) := by kernel_rfl
def u8s (l : List UInt8) : List Value := l.map fun b => .int .u8 (b.toNat : Int)
theorem u8s_app (a b : List UInt8) : u8s (a ++ b) = u8s a ++ u8s b := by simp [u8s]
theorem u8s_len (a : List UInt8) : (u8s a).length = a.length := by simp [u8s]
theorem u8s_str (s : ByteArray) : Lib.strCells s = u8s (toL s) := rfl
theorem u8s_one (l : List UInt8) : ∀ u ∈ u8s l, u.oneCell' = true := by
  intro u hu
  obtain ⟨b, _, rfl⟩ := List.mem_map.1 hu
  rfl
/-- Blocks below base, and those of other types, are as they were. -/
structure VStep (base : Nat) (w w' : World) : Prop where
  below : Below base w w'
  keep : ∀ b T, TypeB w b T → T ≠ 5 → T ≠ 42 → w'.heap[b]? = w.heap[b]?
section
variable {w w' w'' : World} {base pb : Nat} {l : List UInt8}
theorem VStep.refl (base : Nat) (w : World) : VStep base w w := ⟨Below.refl _ _, fun _ _ _ _ _ => rfl⟩
theorem VStep.ty (h : VStep base w w') {b : Nat} {T : TypeId} (ht : TypeB w b T) (h1 : T ≠ 5) (h2 : T ≠ 42) : TypeB w' b T := by
  obtain ⟨c, f, e⟩ := ht
  exact ⟨c, f, (h.keep b T ⟨c, f, e⟩ h1 h2).trans e⟩
theorem VStep.trans (h : VStep base w w') (h' : VStep base w' w'') : VStep base w w'' :=
  ⟨h.below.trans h'.below, fun b T ht h1 h2 => (h'.keep b T (h.ty ht h1 h2) h1 h2).trans (h.keep b T ht h1 h2)⟩
theorem VStep.of (hb : Below w.heap.size w w') (hs : base ≤ w.heap.size) : VStep base w w' := ⟨hb.mono hs, fun b _ ht _ _ => hb.block b ht.lt⟩
theorem VStep.grown {row : Option Nat} {T : TypeId} (hg : w.grownBy w' row) (hs : base ≤ w.heap.size) (hr : ∀ k, row = some k → base ≤ k ∧ TypeB w k T) (hT : T = 5 ∨ T = 42) : VStep base w w' :=
  ⟨grown_below hg hs fun k hk => (hr k hk).1, fun b T' ht h1 h2 => hg.block b ht.lt fun e => by
    have h3 := ht.ne (hr b e.symm).2
    rcases hT with rfl | rfl
    · exact h3 h1 rfl
    · exact h3 h2 rfl⟩
/-- The pen at pb: its row holds l. -/
structure PenR (w : World) (base pb : Nat) (l : List UInt8) : Prop where
  hb : base ≤ pb
  box : ∃ A c, w.heap[pb]? = some (.cells #[.slice A l.length c] 42 (0, 0)) ∧ w.ownsRow base 5 1 (.slice A l.length c) l.length (u8s l)
theorem PenR.next (h : PenR w base pb l) (hb : Below w.heap.size w w') : PenR w' base pb l := by
  obtain ⟨A, c, h1, h2⟩ := h.box
  exact ⟨h.hb, A, c, (hb.block pb (Array.getElem?_eq_some_iff.1 h1).1).trans h1, own_below h2 hb⟩
theorem PenR.size (h : PenR w base pb l) : base ≤ w.heap.size := by
  obtain ⟨A, c, h1, h2⟩ := h.box
  have := (Array.getElem?_eq_some_iff.1 h1).1
  have := h.hb; omega
/-- A row that has been appended to is stored. -/
theorem PenR.store {A A' : Option Addr} {c c' : Nat} {l' : List UInt8} (h : PenR w base pb l) (h1 : w.heap[pb]? = some (.cells #[.slice A l.length c] 42 (0, 0))) (ho : w.ownsRow base 5 1 (.slice A l.length c) l.length (u8s l))
    (hg : w.grownBy w' (Value.slice A l.length c).ownBlock) (ho' : w'.ownsRow base 5 1 (.slice A' l'.length c') l'.length (u8s l')) :
    w'.cell? ⟨pb, 0, none⟩ = some (.slice A l.length c) ∧ w'.frozen? ⟨pb, 0, none⟩ = false ∧ PenR (w'.setCell ⟨pb, 0, none⟩ (.slice A' l'.length c')) base pb l' ∧ VStep base w (w'.setCell ⟨pb, 0, none⟩ (.slice A' l'.length c')) := by
  have hT : TypeB w pb 42 := ⟨_, _, h1⟩
  have hlt := hT.lt
  have hne : some pb ≠ (Value.slice A l.length c).ownBlock := fun e => (hT.ne (own_block ho e.symm) (by decide)) rfl
  have hp := (hg.block pb hlt hne).trans h1
  have hgs := grown_set w' pb 0 (.slice A' l'.length c')
  have hT' : TypeB w' pb 42 := ⟨_, _, hp⟩
  refine ⟨cell_of_row w' pb 0 _ _ _ hp, frozen_of_row w' pb 0 _ _ hp, ⟨h.hb, A', c', ?_, ho'.kept hgs ?_⟩, ?_⟩
  · exact heap_setCell_same w' pb 0 _ _ _ hp
  · exact own_far ho' hT' (by decide)
  · exact (VStep.grown (T := 5) hg h.size (fun k hk => ⟨(ho.lt k hk).1, own_block ho hk⟩) (.inl rfl)).trans
      (VStep.grown (T := 42) hgs (by have := h.size; have := hg.size; omega) (fun k hk => by injection hk with hk; subst hk; exact ⟨h.hb, hT'⟩) (.inr rfl))
end
set_option maxRecDepth 100000 in
set_option maxHeartbeats 1000000 in
theorem nums_any (base pb : Nat) (l : List UInt8) (xs : List Int) (A : Option Addr) (n c : Nat) (w : World) (h : PenR w base pb l) (hl : l.length ≤ 100000) (hn : n ≤ 100000)
    (hr : ∀ W, VStep base w W → Rd W W.heap.size 1 A n (ints xs)) :
    Calls Try.prog 13 #[.pointer (some ⟨pb, 0, none⟩), .slice A n c] w fun e w' => e = .returned (.tuple #[]) ∧ PenR w' base pb (l ++ bytesL xs) ∧ VStep base w w' := by
  obtain ⟨i0, hi0, hz0, hz1, hz2⟩ := info_parts Try.infoU8
  have hxl : xs.length = n := (hr w (VStep.refl _ _)).len
  go_enter Try.func13, Try.ntmps13
  go_wp2_with fail
  go_loopw [8] (fun i wr => ∃ k : Nat, k ≤ n ∧ i = .int .i64 k ∧ PenR wr base pb (l ++ bytesL (xs.take k)) ∧ VStep base w wr) (fun i _ => n - (intOf i).toNat)
  case atStart => exact ⟨0, Nat.zero_le _, rfl, by simpa [bytesL] using h, VStep.refl _ _⟩
  case round =>
    obtain ⟨k, hk, rfl, hp, hv⟩ := hrel
    by_cases hlt : k < n
    · obtain ⟨b, o, x, rfl, hb, hx, cx⟩ := (hr wr hv).at1 hlt
      obtain ⟨pA, pc, q1, q2⟩ := hp.box
      have cp := cell_of_row wr pb 0 _ _ _ q1
      have hlen : (l ++ bytesL (xs.take k)).length ≤ 200000 := by rw [List.length_append, bytesL_len, List.length_take]; omega
      have HTK := Lib.hid (show l ++ bytesL (xs.take (k + 1)) = l ++ bytesL (xs.take k) ++ [byteOf x] from by rw [List.take_add_one, hx]; simp [bytesL])
      have HE := byteOf_mod x
      generalize l ++ bytesL (xs.take k) = L at *
      obtain ⟨A', c', w', r1, r2, r3, r4, r5, r6, r7⟩ := app_one (P := Try.prog) wr base 40 40 5 i0 _ 1 1 Try.underlying40 hi0 hz0 hz1 hz2 rfl (by omega) _ _ _ q2 #[.int .u8 (x % 256)] rfl (by intro u hu; simp at hu; subst hu; rfl) (by omega) (by unfold maxLen; omega) hp.size
      have e0 : (0 : Int) ≤ (k : Int) := by omega
      have e1 : (k : Int) < (n : Int) := by omega
      have hq1 := ((below1 wr (.cells #[.int .u8 (x % 256)] 5)).block pb (Array.getElem?_eq_some_iff.1 q1).1).trans q1
      obtain ⟨s1, s2, s3, s4⟩ := (hp.next (below1 wr (.cells #[.int .u8 (x % 256)] 5))).store (A' := A') (c' := c') (l' := L ++ [byteOf x]) hq1 (own_below q2 (below1 _ _)) r6 (by
        have : (L ++ [byteOf x]).length = L.length + 1 := by simp
        rw [this, u8s_app, show u8s [byteOf x] = [.int .u8 (x % 256)] from by simp [u8s, HE]]; exact r2)
      rw [show (L ++ [byteOf x]).length = L.length + 1 from by simp] at s3 s4
      have S3 := Lib.hid s3
      have S4 := Lib.hid (hv.trans ((VStep.of (below1 wr (.cells #[.int .u8 (x % 256)] 5)) hp.size).trans s4))
      have HR := Lib.hid r1
      clear hx r1 r2 q1 q2 hq1 s3 s4 hr hp hv r6 r7 HE
      generalize L.length = q at *
      go_wp2_with (at_builtin; refine wpList_app rfl _ _ _ _ rfl rfl rfl rfl HR.out ?_)
      go_roundw
      case rel => exact ⟨k + 1, by omega, by go_num, by rw [HTK.out]; exact S3.out, S4.out⟩
      case measure => simp [intOf]; omega
    · obtain rfl : k = n := by omega
      rw [List.take_of_length_le (by omega)] at hp
      go_wp2_with fail
      go_end0
      exact ⟨rfl, hp, hv⟩
set_option maxRecDepth 100000 in
set_option maxHeartbeats 1000000 in
theorem text_any (base pb : Nat) (l : List UInt8) (s : ByteArray) (w : World) (h : PenR w base pb l) (hl : l.length ≤ 100000) (hs : s.size ≤ 100000) :
    Calls Try.prog 14 #[.pointer (some ⟨pb, 0, none⟩), .string s] w fun e w' => e = .returned (.tuple #[]) ∧ PenR w' base pb (l ++ toL s) ∧ VStep base w w' := by
  obtain ⟨i0, hi0, hz0, hz1, hz2⟩ := info_parts Try.infoU8
  obtain ⟨pA, pc, q1, q2⟩ := h.box
  have cp := cell_of_row w pb 0 _ _ _ q1
  obtain ⟨v', w', r1, r2, r3, r4⟩ := Lib.run_append_own_string (P := Try.prog) w base 40 9 40 5 i0 Try.underlying40 Try.underlying9 hi0 hz0 hz1 hz2 _ _ _ q2 s (by unfold maxLen; omega) (by omega) h.size
  obtain ⟨A', c', rfl, r5, r6⟩ := own_form r2
  obtain ⟨s1, s2, s3, s4⟩ := h.store (A' := A') (c' := c') (l' := l ++ toL s) q1 q2 r3 (by
    rw [show (l ++ toL s).length = l.length + s.size from by rw [List.length_append, toL_len], u8s_app]; exact r2)
  rw [show (l ++ toL s).length = l.length + s.size from by rw [List.length_append, toL_len]] at s3 s4
  have S3 := Lib.hid s3
  have S4 := Lib.hid s4
  have HR := Lib.hid r1
  clear r1 r2 r3 r4 q1 q2 s3 s4 h
  generalize l.length = q at *
  go_enter Try.func14, Try.ntmps14
  go_wp2_with (at_builtin; refine wpList_appT rfl _ _ _ _ _ rfl rfl rfl rfl HR.out ?_)
  go_end0
  exact ⟨rfl, S3.out, S4.out⟩
end Go.Proofs.Ytbhhcjnjddcocaa
