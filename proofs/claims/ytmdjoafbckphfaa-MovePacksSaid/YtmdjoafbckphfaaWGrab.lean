/- The texts WDesk, WGrab in one. Conditions: as each says. -/
import Derived.Test.YtmdjoafbckphfaaOwnP
import Derived.Test.YtmdjoafbckphfaaPureM
import Derived.StillTailTactics
-- WDesk: The desk: entries, grab. Conditions: the image in the desk's box is the call's own; its slots are right.
namespace Go.Proofs.Ytmdjoafbckphfaa
open Go.RowKit Sl

set_option maxRecDepth 100000 in
set_option maxHeartbeats 400000 in
theorem grab2_any (A : Option Addr) (n c : Nat) (l : List Slot) (w : World) (h : SlotsR w w.heap.size A n l) (hn : n ≤ c) (hc : n ≤ 4611686018427387903) :
    Calls Try.prog 76 #[.slice A n c] w fun e w' => e = .returned (.tuple #[.int .i64 (grabN l), .int .i64 (grabE l)]) ∧ Below w.heap.size w w' := by
  have HK := Lib.hid (scheckall_any A n c l w h (by omega))
  by_cases he : slotsErr l = 0
  · obtain ⟨l1, l2⟩ := slotsErr_len he
    have hln := h.1
    rw [he] at HK
    obtain ⟨b, o, rfl, hb, _⟩ := h.2 (by omega)
    have hsl := fun W => run_from (P := Try.prog) 24 80 3 Try.underlying24 (fun W => by kernel_rfl) (some ⟨b, o, none⟩) n c 1 (by omega) W
    have hT := h.cut (k := 1) (by omega) hn
    rw [Int.natCast_one] at hsl
    generalize cutA (some ⟨b, o, none⟩) c 1 3 = A' at hsl hT
    have hI := fun (W : World) (hw : Below w.heap.size w W) => indexSlots 58 (fun s => s.kind == 0) A' (n - 1) (c - 1) w.heap.size (l.drop 1) W (hT.below hw (Nat.le_refl _)) hw.size (by omega) (fun _ _ => by kernel_rfl) (fun s tA tn tc W hW hs => freefn_any _ s tA tn tc W hW hs)
    clear hT h
    generalize hi : indexOf (fun s : Slot => s.kind == 0) (l.drop 1) = i at hI
    have HI := Lib.hid hI
    clear hI
    rcases indexOf_cases (fun s : Slot => s.kind == 0) (l.drop 1) with hm | ⟨hp1, hp2⟩
    · have HG := Lib.hid (grab_miss he (by omega))
      rw [hi] at hm
      subst hm
      by_cases h40 : n = 40
      · have g40 : ((n : Int) == 40) = true := by simp; omega
        obtain ⟨r1, r2⟩ := HG.out.1 (by omega)
        have R := Lib.hid (And.intro r1 r2)
        clear r1 r2 HG hi he h40 hln
        go_enter Try.func76, Try.ntmps76
        go_wp2_with (first | (go_at_call 57; refine HK.out.mono ?_; rintro e w' ⟨rfl, hb'⟩) | (go_at_call 97; refine (HI.out _ hb').mono ?_; rintro e w'' ⟨rfl, hb''⟩))
        go_ret2
        exact ⟨ret_ii R.out.1 R.out.2, hb'.trans (hb''.mono hb'.size)⟩
      · have g40 : ((n : Int) == 40) = false := by simp; omega
        obtain ⟨r1, r2⟩ := HG.out.2 (by omega)
        rw [hln] at r1
        have R := Lib.hid (And.intro r1 r2)
        clear r1 r2 HG hi he h40 hln
        go_enter Try.func76, Try.ntmps76
        go_wp2_with (first | (go_at_call 57; refine HK.out.mono ?_; rintro e w' ⟨rfl, hb'⟩) | (go_at_call 97; refine (HI.out _ hb').mono ?_; rintro e w'' ⟨rfl, hb''⟩))
        go_ret2
        exact ⟨ret_ii R.out.1 R.out.2, hb'.trans (hb''.mono hb'.size)⟩
    · rw [List.length_drop] at hp2
      rw [hi] at hp1 hp2
      have R := Lib.hid (grab_hit he i hi hp1)
      clear hi he hln
      go_enter Try.func76, Try.ntmps76
      go_wp2_with (first | (go_at_call 57; refine HK.out.mono ?_; rintro e w' ⟨rfl, hb'⟩) | (go_at_call 97; refine (HI.out _ hb').mono ?_; rintro e w'' ⟨rfl, hb''⟩))
      go_ret2
      exact ⟨ret_ii R.out.1 R.out.2, hb'.trans (hb''.mono hb'.size)⟩
  · have HV := Lib.hid (grab_bad he)
    have he' : (slotsErr l != 0) = true := by simpa using he
    clear h he
    go_enter Try.func76, Try.ntmps76
    go_wp2_with (go_at_call 57; refine HK.out.mono ?_; rintro e w' ⟨rfl, hb'⟩)
    go_ret2
    exact ⟨ret_ii HV.out.1 HV.out.2, hb'⟩

theorem entries_no {m : Img} {k : Nat} (h : int m.root k ≤ 0) : entriesAt m k = [0, 0, 0, 0] := by unfold entriesAt; rw [if_neg (by omega)]
theorem entries_yes {m : Img} {k j : Nat} {s : Slot} (h : int m.root k = (j : Nat)) (hj : 1 ≤ j) (hs : m.slots[j]? = some s) : entriesAt m k = s.table := by unfold entriesAt; rw [if_pos (by omega), h, tableAt_at hs]
/-- The k-th entry of a Root tells a table, or nothing. -/
def RootOk (m : Img) (k : Nat) : Prop := int m.root k ≤ 0 ∨ ∃ j s, int m.root k = (j : Nat) ∧ 1 ≤ j ∧ m.slots[j]? = some s ∧ s.table.length = 4

set_option maxRecDepth 100000 in
set_option maxHeartbeats 1000000 in
theorem entries_any (b : Nat) (v : IV) (m : Img) (k : Nat) (w : World) (h : ImgR w w.heap.size v m) (hx : Box w b m.guest v) (hk : k < v.rn) (hr : RootOk m k) :
    Calls Try.prog 41 #[.pointer (some ⟨b, 0, none⟩), .int .i64 (k : Nat)] w (OwnRes w.heap.size 3 1 4 (ints (entriesAt m k)) w) := by
  obtain ⟨b1, o1, t, hA, hb1, ht, c1⟩ := h.root.at1 hk
  have hrn : v.rn ≤ 4611686018427387903 := h.rcap.1
  have hit := int_at ht
  obtain ⟨rA, rn, rc, sA, sn, sc, fA, fn, fc, pA, pn, pc⟩ := v
  obtain ⟨x0, x1, x2, x3, x4⟩ := hx
  dsimp only at *
  subst hA
  have e0 : (0 : Int) ≤ (k : Int) := by omega
  have e1 : (k : Int) < (rn : Int) := by omega
  rcases hr with h0 | ⟨j, s, hj, hj1, hs, hl⟩
  · rw [hit] at h0
    have R := Lib.hid (entries_no (m := m) (k := k) (by rw [hit]; exact h0))
    have HM : ∀ W : World, (Instr.makeSlice 23 (.int .i64 4) (.int .i64 4)).run Try.prog W = .ok (.slice (some ⟨W.heap.size, 0, none⟩) 4 4) (W.alloc (.cells (ints (List.replicate 4 0)).toArray 3)) := fun W => make_ints 4 (by omega) W
    have hown := own_of_block (heap_alloc_new w (.cells (ints (List.replicate 4 0)).toArray 3)) (Nat.le_refl _) (show (ints (List.replicate 4 0)).length = 4 from rfl) (by unfold maxLen; omega)
    have HO := Lib.hid hown
    clear h ht hit hown
    go_enter Try.func41, Try.ntmps41
    go_wp2_with fail
    go_ret
    exact ⟨_, _, rfl, by rw [R.out]; exact HO.out, below1 _ _, Nat.le_refl _, by unfold maxLen; omega⟩
  · have hjl : j < sn := by have := h.slen; have := (List.getElem?_eq_some_iff.1 hs).1; dsimp only at *; omega
    obtain ⟨b2, o2, s2, tA, tn, tc, rfl, hb2, hx2, d0, d1, d2, hsv⟩ := h.slots.at_ (k := j) hjl
    rw [hs] at hx2
    injection hx2 with hx2
    subst hx2
    obtain rfl : tn = 4 := by have := hsv.table.len; omega
    have R := Lib.hid (entries_yes hj hj1 hs)
    have KC := Lib.hid (cloneInts tA 4 tc (ints s.table) w hsv.table (one_ints _) (by omega))
    rw [hit] at hj
    subst hj
    have e2 : (0 : Int) < (j : Int) := by omega
    have e3 : (j : Int) < (sn : Int) := by omega
    have e4 : (0 : Int) ≤ (j : Int) := by omega
    clear h ht hit hs hsv hl d0 d1
    go_enter Try.func41, Try.ntmps41
    go_wp2_with fail
    refine KC.out.mono ?_
    rintro e w1 ⟨A1, c1', rfl, ho, hb, hc1, hc2⟩
    go_wp2_with fail
    go_ret
    exact ⟨_, _, rfl, by rw [R.out]; exact ho, hb, hc1, hc2⟩

theorem laid_len {l : List Slot} {n : Nat} {s : Slot} : (laid l n s).length = if n = l.length then l.length + 1 else l.length := by unfold laid; split <;> simp
/-- What grab's panic bears. -/
abbrev fullV : Value := .iface 95 (.agg #[])
/-- The desk: a box of its type at b, an image of the call's own in it. -/
structure DeskAt (w : World) (base : Nat) (tg : Nat → Nat) (b : Nat) (v : IV) (q : List SV) (p : List PV) (m : Img) : Prop where
  own : OwnI w base tg v q p m
  box : Box w b m.guest v
  ty : BoxG w b 71
  lo : base ≤ b
theorem DeskAt.next {w w' : World} {base : Nat} {tg : Nat → Nat} {b : Nat} {v : IV} {q : List SV} {p : List PV} {m : Img} (h : DeskAt w base tg b v q p m) (hb : Below w.heap.size w w') : DeskAt w' base tg b v q p m :=
  ⟨h.own.next hb, h.box.keep hb h.ty.ty.lt, h.ty.next hb, h.lo⟩

set_option maxRecDepth 100000 in
set_option maxHeartbeats 1000000 in
theorem grab_full (base : Nat) (tg : Nat → Nat) (b : Nat) (v : IV) (q : List SV) (p : List PV) (m : Img) (s : Slot) (A : Option Addr) (n c : Nat) (w : World) (h : DeskAt w base tg b v q p m) (hs : slotsErr m.slots = 0) (hg : grab m.slots = 0) :
    Calls Try.prog 51 #[.pointer (some ⟨b, 0, none⟩), .agg #[.int .i64 s.kind, .string s.data, .slice A n c]] w fun e w' => e = .panicked [{ v := fullV, recovered := false }] ∧ Below w.heap.size w w' := by
  have hI := h.own.imgR
  have K1' := fun W (hb : Below w.heap.size w W) => grab2_any v.sA v.sn v.sc m.slots W (hI.next hb).slots hI.sle hI.scap.1
  rw [show grabN m.slots = 0 from by unfold grabN; rw [if_pos hs, hg]; rfl, show grabE m.slots = 7 from by unfold grabE; rw [if_pos hs, if_pos hg]] at K1'
  have K1 := Lib.hid K1'
  have HBX := Lib.hid h.box
  have hbl := h.ty.ty.lt
  obtain ⟨rA, rn, rc, sA, sn, sc, fA, fn, fc, pA, pn, pc⟩ := v
  dsimp only at K1
  have HB1 := below1 w (.cells #[.int .i64 s.kind, .string s.data, .slice A n c] 80)
  obtain ⟨x0, x1, x2, x3, x4⟩ := HBX.out.keep HB1 hbl
  dsimp only at x0 x1 x2 x3 x4
  clear h hI K1' hs hg
  go_enter Try.func51, Try.ntmps51
  go_wp2_with fail
  refine (K1.out _ HB1).mono ?_
  rintro e w1 ⟨rfl, hb1⟩
  have T1 := Lib.hid (below_next HB1 hb1)
  clear hb1
  go_wp2_with fail
  exact ⟨rfl, rfl, T1.out⟩
end Go.Proofs.Ytmdjoafbckphfaa
-- WGrab: The desk's grab where a slot is left. Conditions: the image in the desk's box is the call's own; its slots are right.
namespace Go.Proofs.Ytmdjoafbckphfaa
open Go.RowKit Sl

/-- What a function leaves on the desk: the image m2; the Root's slice, and all rows of numbers, are as they were. -/
def DeskOut (base : Nat) (tg : Nat → Nat) (b : Nat) (v : IV) (p : List PV) (m2 : Img) (w w' : World) : Prop :=
  ∃ v' q', DeskAt w' base tg b v' q' p m2 ∧ v'.rA = v.rA ∧ v'.rn = v.rn ∧ v'.rc = v.rc ∧ (∀ t A n c xs, TabO w base tg t A n c xs → TabO w' base tg t A n c xs) ∧ Below base w w'
theorem grabN_is {l : List Slot} (hs : slotsErr l = 0) (hg : grab l ≠ 0) : grabN l = (grab l : Nat) ∧ grabE l = 0 ∧ grab l ≤ l.length ∧ l.length ≤ 40 ∧ (grab l = l.length → l.length < 40) := by
  have h40 := (slotsErr_len hs).2
  refine ⟨by unfold grabN; rw [if_pos hs], by unfold grabE; rw [if_pos hs, if_neg hg], ?_, h40, ?_⟩
  · unfold grab at hg ⊢
    split
    · rename_i h; rw [List.length_drop] at h; omega
    · split
      · exact Nat.le_refl _
      · omega
  · intro he
    unfold grab at he hg
    split at he
    · rename_i h; rw [List.length_drop] at h; omega
    · split at he
      · assumption
      · rename_i h1 h2; rw [if_neg h1, if_neg h2] at hg; exact absurd rfl hg
set_option maxRecDepth 100000 in
set_option maxHeartbeats 1000000 in
theorem grab_ok (base : Nat) (tg : Nat → Nat) (b : Nat) (v : IV) (q : List SV) (p : List PV) (m : Img) (s : Slot) (A : Option Addr) (n c : Nat) (w : World) (h : DeskAt w base tg b v q p m) (hs : slotsErr m.slots = 0) (hg : grab m.slots ≠ 0)
    (hd : s.data.size ≤ 4611686018427387903) (ht : TabO w base tg (2 * grab m.slots + 4) A n c s.table) :
    Calls Try.prog 51 #[.pointer (some ⟨b, 0, none⟩), .agg #[.int .i64 s.kind, .string s.data, .slice A n c]] w
    fun e w' => e = .returned (.int .i64 (grab m.slots : Nat)) ∧ DeskOut base tg b v p { m with slots := laid m.slots (grab m.slots) s } w w' := by
  have hI := h.own.imgR
  obtain ⟨r1, r2, r3, r4, r5⟩ := grabN_is hs hg
  have K1' := fun W (hb : Below w.heap.size w W) => grab2_any v.sA v.sn v.sc m.slots W (hI.next hb).slots hI.sle hI.scap.1
  rw [r1, r2] at K1'
  have hsn : m.slots.length = v.sn := hI.slen
  have hbl := h.ty.ty.lt
  have hlo := h.lo
  generalize hgn : grab m.slots = g at *
  have K1 := Lib.hid K1'
  have HD := Lib.hid h
  have HT := Lib.hid ht
  have HB1 := below1 w (.cells #[.int .i64 s.kind, .string s.data, .slice A n c] 80)
  obtain ⟨sb, hsA, hsb, hsl⟩ := own_some h.own.slots (by omega)
  obtain ⟨rA, rn, rc, sA, sn, sc, fA, fn, fc, pA, pn, pc⟩ := v
  dsimp only at *
  subst hsA
  obtain ⟨x0, x1, x2, x3, x4⟩ := h.box.keep HB1 hbl
  dsimp only at x0 x1 x2 x3 x4
  have t3 := fun j => cell_of_row (w.alloc (.cells #[.int .i64 s.kind, .string s.data, .slice A n c] 80)) w.heap.size j _ _ _ (heap_alloc_new w _)
  have l3 : w.heap.size < (w.alloc (.cells #[.int .i64 s.kind, .string s.data, .slice A n c] 80)).heap.size := by simp
  have T30 := Lib.hid (t3 0)
  have T31 := Lib.hid (t3 1)
  have T32 := Lib.hid (t3 2)
  have HSN := Lib.hid hsn
  have HGN := Lib.hid hgn
  have hg0 : g ≠ 0 := hg
  have hgl : g ≤ sn := by omega
  have h40 : sn ≤ 40 := by omega
  have h39 : g = sn → sn < 40 := by omega
  clear h hI K1' hs hgn ht t3 r1 r2 r3 r4 r5 hsn hg
  go_enter Try.func51, Try.ntmps51
  go_wp2_with fail
  refine (K1.out _ HB1).mono ?_
  rintro e w1 ⟨rfl, hb1⟩
  have W1 := below_next HB1 hb1
  have H1 := HD.out.next W1
  obtain ⟨x0, x1, x2, x3, x4⟩ := H1.box
  have u0 := (hb1.cell (p := ⟨w.heap.size, 0, none⟩) l3).trans T30.out
  have u1 := (hb1.cell (p := ⟨w.heap.size, 1, none⟩) l3).trans T31.out
  have u2 := (hb1.cell (p := ⟨w.heap.size, 2, none⟩) l3).trans T32.out
  simp only [List.getElem?_toArray, List.getElem?_cons_zero, List.getElem?_cons_succ] at u0 u1 u2
  dsimp only at x0 x1 x2 x3 x4
  have hl1 : w.heap.size < w1.heap.size := by have := hb1.size; omega
  have hT1 := HT.out.next W1
  clear hb1 HB1 K1 T30 T31 T32 l3
  have HH1 := Lib.hid H1
  have HW1 := Lib.hid W1
  have HT1 := Lib.hid hT1
  clear H1 W1 hT1
  have hbw : base ≤ w1.heap.size := by have := HW1.out.size; omega
  obtain ⟨is0, his, hsz0, hsz1, hsz2⟩ := info_parts Try.infoSlot
  have hnil : ∀ W W' : World, Below W.heap.size W W' → ∀ t A n c xs, TabO W base tg t A n c xs → TabO W' base tg t A n c xs := fun W W' hb t A n c xs hh => hh.next hb
  by_cases hn : g = sn
  · subst hn
    have hgg : ((g : Int) == (g : Int)) = true := by simp
    obtain ⟨A2, c2, w5, q1, q2, q3, q4, q5, q6, q7⟩ := app_one (P := Try.prog) w1 base 24 24 80 is0 _ 3 48 Try.underlying24 his hsz0 hsz1 hsz2 rfl (by omega) _ _ _ HH1.out.own.slots #[.int .i64 0, .string { data := #[] }, .slice none 0 0] rfl
      (by intro u hu; simp at hu; rcases hu with rfl | rfl | rfl <;> rfl) (by show (g + 1) * 48 ≤ _; omega) (by show g + 1 ≤ _; unfold maxLen; omega) hbw
    dsimp only at q1
    have HR := Lib.hid q1
    have W5 := below1 w1 (.cells #[.int .i64 0, .string { data := #[] }, .slice none 0 0] 80)
    have O5 := (HH1.out.own.next W5).pushSlot (x := freeSV) q2 q6 q4 q5 (by show g ≤ _; omega) (by decide) TabO.nil
    obtain ⟨g2, rfl, hg21, hg22⟩ := own_some O5.slots (by show 0 < g + 1; omega)
    have hne1 : some b ≠ (Value.slice (some ⟨sb, 0, none⟩) g sc).ownBlock := fun e => (HH1.out.ty.ty.ne (own_block HH1.out.own.slots e.symm) (by decide)) rfl
    have B5 := (HH1.out.box.keep W5 HH1.out.ty.ty.lt).kept q6 hne1
    have E5 := (HH1.out.ty.next W5).kept q6 hne1
    obtain ⟨z0, z1, z2, z3, z4⟩ := B5
    dsimp only at z0 z1 z2 z3 z4
    have fz2 := E5.fz 2
    have hgs := grown_set w5 b 2 (.slice (some ⟨g2, 0, none⟩) (g + 1) c2)
    have O6 := O5.kept hgs E5.ty (by decide) (by decide) (by decide)
    have B6 : Box (w5.setCell ⟨b, 2, none⟩ (.slice (some ⟨g2, 0, none⟩) (g + 1) c2)) b m.guest ⟨rA, rn, rc, some ⟨g2, 0, none⟩, g + 1, c2, fA, fn, fc, pA, pn, pc⟩ := by
      refine ⟨?_, ?_, ?_, ?_, ?_⟩ <;> go_simp
    have E6 := E5.set 2 (.slice (some ⟨g2, 0, none⟩) (g + 1) c2)
    have hq1 : q.length = g := HH1.out.own.qlen
    have hqk : (q ++ [freeSV])[g]? = some freeSV := by rw [List.getElem?_append_right (by omega), hq1, Nat.sub_self]; rfl
    have TT : ∀ t A n c xs, TabO w base tg t A n c xs → TabO (w5.setCell ⟨b, 2, none⟩ (.slice (some ⟨g2, 0, none⟩) (g + 1) c2)) base tg t A n c xs := fun t A n c xs hh =>
      (((hh.next HW1.out).next W5).far (HH1.out.own.next W5).slots (by decide) q6).kept hgs (fun b' e hl => .inl ⟨_, by injection e with e; subst e; exact E5.ty, by decide⟩)
    obtain ⟨n1, n2⟩ := O6.set3 (x' := ⟨s, A, n, c⟩) rfl hqk hd (TT _ _ _ _ _ HT.out)
    have hne : b ≠ g2 := E6.ty.ne (own_block O6.slots (b := g2) rfl) (by decide)
    have D := DeskAt.mk n1 (B6.kept n2 (fun e => hne (by injection e))) (E6.kept n2 (fun e => hne (by injection e))) hlo
    have LD : ((m.slots ++ [freeSV.s]).set g s) = laid m.slots g s := by
      unfold laid
      rw [if_pos HSN.out.symm, List.set_append_right _ _ (by have := HSN.out; omega), HSN.out, Nat.sub_self]; rfl
    have TT2 : ∀ t A n c xs, TabO w base tg t A n c xs → TabO _ base tg t A n c xs := fun t A n' c' xs hh => (TT t A n' c' xs hh).kept n2 (fun b' e hl => .inl ⟨_, by injection e with e; subst e; exact own_block O6.slots (b := g2) rfl, by decide⟩)
    have LB : Below base w (w5.setCell ⟨b, 2, none⟩ (.slice (some ⟨g2, 0, none⟩) (g + 1) c2)) := ((HW1.out.mono (by omega)).trans q3).setCell (p := ⟨b, 2, none⟩) hlo _
    have LB2 := LB.grown n2 (by have := LB.size; omega) (fun j e => by injection e with e; omega)
    have a0 := O6.slots.cellAt (g * 3) (by dsimp only; omega)
    have a1 := O6.slots.cellAt (g * 3 + 1) (by dsimp only; omega)
    have a2 := O6.slots.cellAt (g * 3 + 2) (by dsimp only; omega)
    have f0 := O6.slots.frozenAt (g * 3)
    have f1 := O6.slots.frozenAt (g * 3 + 1)
    have f2 := O6.slots.frozenAt (g * 3 + 2)
    have y0 := flat3_at SV.cells SV.cells_len _ g freeSV hqk 0 (by omega)
    rw [Nat.add_zero] at y0
    rw [y0] at a0
    rw [flat3_at SV.cells SV.cells_len _ g freeSV hqk 1 (by omega)] at a1
    rw [flat3_at SV.cells SV.cells_len _ g freeSV hqk 2 (by omega)] at a2
    simp only [SV.cells, slotCells, List.getElem?_cons_zero, List.getElem?_cons_succ] at a0 a1 a2
    have hl5 : w.heap.size < w1.heap.size := hl1
    have hs5 := W5.size
    have hneb : w.heap.size ≠ b := by omega
    have hnsb : some w.heap.size ≠ (Value.slice (some ⟨sb, 0, none⟩) g sc).ownBlock := fun e => by simp [Value.ownBlock] at e; omega
    have v0 := q6.cell ((W5.cell (p := ⟨w.heap.size, 0, none⟩) hl5).trans u0) hnsb
    have v1 := q6.cell ((W5.cell (p := ⟨w.heap.size, 1, none⟩) hl5).trans u1) hnsb
    have v2 := q6.cell ((W5.cell (p := ⟨w.heap.size, 2, none⟩) hl5).trans u2) hnsb
    obtain ⟨k0, k1, k2, k3, k4⟩ := B6
    dsimp only at k0 k1 k2 k3 k4
    have v0' := cell_set_far (a := ⟨b, 2, none⟩) (v := .slice (some ⟨g2, 0, none⟩) (g + 1) c2) v0 hneb
    have v1' := cell_set_far (a := ⟨b, 2, none⟩) (v := .slice (some ⟨g2, 0, none⟩) (g + 1) c2) v1 hneb
    have v2' := cell_set_far (a := ⟨b, 2, none⟩) (v := .slice (some ⟨g2, 0, none⟩) (g + 1) c2) v2 hneb
    have HDD := Lib.hid D
    have HTT := Lib.hid TT2
    have HLB := Lib.hid LB2
    have HLD := Lib.hid LD
    have e0 : (0 : Int) ≤ (g : Int) := by omega
    have e1 : (g : Int) < (g : Int) + 1 := by omega
    have e2 : (g : Int) < ((g + 1 : Nat) : Int) := by omega
    clear q1 q2 q3 q6 q7 W5 O5 hne1 E5 hgs O6 E6 hq1 hqk TT n1 n2 D LD TT2 LB LB2 y0 v0 v1 v2 hnsb
    go_wp2_with (at_builtin; refine wpList_app rfl _ _ _ _ rfl rfl rfl rfl HR.out ?_)
    generalize w5.setCell ⟨b, 2, none⟩ (Value.slice (some ⟨g2, 0, none⟩) (g + 1) c2) = w6 at *
    go_still_tail 8, (by kernel_rfl)
    go_wp2_with fail
    go_ret
    exact ⟨rfl, ⟨rA, rn, rc, some ⟨g2, 0, none⟩, g + 1, c2, fA, fn, fc, pA, pn, pc⟩, _, by rw [← HLD.out]; exact HDD.out.next (Below.refl _ _).drew, rfl, rfl, rfl, fun t A n c xs hh => (HTT.out t A n c xs hh).next (Below.refl _ _).drew, HLB.out.drew⟩
  · have hgg : ((g : Int) == (sn : Int)) = false := by simp; omega
    have hlt : g < sn := by omega
    have hsl := HH1.out.own.slots
    have hq1 : g < q.length := by have := HH1.out.own.qlen; dsimp only at this; omega
    have hqk := List.getElem?_eq_getElem hq1
    generalize q[g] = xk at hqk
    have c0 := hsl.cellAt (g * 3) (by dsimp only; omega)
    have c1 := hsl.cellAt (g * 3 + 1) (by dsimp only; omega)
    have c2 := hsl.cellAt (g * 3 + 2) (by dsimp only; omega)
    have f0 := hsl.frozenAt (g * 3)
    have f1 := hsl.frozenAt (g * 3 + 1)
    have f2 := hsl.frozenAt (g * 3 + 2)
    have y0 := flat3_at SV.cells SV.cells_len _ g xk hqk 0 (by omega)
    rw [Nat.add_zero] at y0
    rw [y0] at c0
    rw [flat3_at SV.cells SV.cells_len _ g xk hqk 1 (by omega)] at c1
    rw [flat3_at SV.cells SV.cells_len _ g xk hqk 2 (by omega)] at c2
    simp only [SV.cells, slotCells, List.getElem?_cons_zero, List.getElem?_cons_succ] at c0 c1 c2
    have e0 : (0 : Int) ≤ (g : Int) := by omega
    have e1 : (g : Int) < (sn : Int) := by omega
    obtain ⟨n1, n2⟩ := HH1.out.own.set3 (x' := ⟨s, A, n, c⟩) rfl hqk hd HT1.out
    have hne : b ≠ sb := HH1.out.ty.ty.ne (own_block HH1.out.own.slots (b := sb) rfl) (by decide)
    have D := DeskAt.mk n1 (HH1.out.box.kept n2 (fun e => hne (by injection e))) (HH1.out.ty.kept n2 (fun e => hne (by injection e))) hlo
    have LD : (m.slots.set g s) = laid m.slots g s := by unfold laid; rw [if_neg (by have := HSN.out; omega)]
    have TT2 : ∀ t A n c xs, TabO w base tg t A n c xs → TabO _ base tg t A n c xs := fun t A n' c' xs hh => (hh.next HW1.out).kept n2 (fun b' e hl => .inl ⟨_, by injection e with e; subst e; exact own_block HH1.out.own.slots (b := sb) rfl, by decide⟩)
    have LB2 := (HW1.out.mono (show base ≤ w.heap.size by omega)).grown n2 hbw (fun j e => by injection e with e; omega)
    have HDD := Lib.hid D
    have HTT := Lib.hid TT2
    have HLB := Lib.hid LB2
    have HLD := Lib.hid LD
    clear hsl y0 hqk hq1 n1 n2 D LD TT2 LB2
    go_wp2_with fail
    go_still_tail 8, (by kernel_rfl)
    go_wp2_with fail
    go_ret
    exact ⟨rfl, ⟨rA, rn, rc, some ⟨sb, 0, none⟩, sn, sc, fA, fn, fc, pA, pn, pc⟩, _, by rw [← HLD.out]; exact HDD.out.next (Below.refl _ _).drew, rfl, rfl, rfl, fun t A n c xs hh => (HTT.out t A n c xs hh).next (Below.refl _ _).drew, HLB.out.drew⟩
end Go.Proofs.Ytmdjoafbckphfaa
