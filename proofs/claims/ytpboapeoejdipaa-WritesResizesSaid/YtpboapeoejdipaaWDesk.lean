/- The desk: entries, grab. Conditions: the image in the desk's box is the call's own; its slots are right. -/
import Derived.Test.YtpboapeoejdipaaSettleG
import Derived.Test.YtpboapeoejdipaaOwnPush
import Derived.Test.YtpboapeoejdipaaPureW
namespace Go.Proofs.Ytpboapeoejdipaa
open Go.RowKit Sl

set_option maxRecDepth 100000 in
set_option maxHeartbeats 400000 in
theorem grab2_any (A : Option Addr) (n c : Nat) (l : List Slot) (w : World) (h : SlotsR w w.heap.size A n l) (hn : n ≤ c) (hc : n ≤ 4611686018427387903) :
    Calls Try.prog 70 #[.slice A n c] w fun e w' => e = .returned (.tuple #[.int .i64 (grabN l), .int .i64 (grabE l)]) ∧ Below w.heap.size w w' := by
  have HK := Lib.hid (scheckall_any A n c l w h (by omega))
  by_cases he : slotsErr l = 0
  · obtain ⟨l1, l2⟩ := slotsErr_len he
    have hln := h.1
    rw [he] at HK
    obtain ⟨b, o, rfl, hb, _⟩ := h.2 (by omega)
    have hsl := fun W => run_from (P := Try.prog) 23 56 3 Try.underlying23 (fun W => by kernel_rfl) (some ⟨b, o, none⟩) n c 1 (by omega) W
    have hT := h.cut (k := 1) (by omega) hn
    rw [Int.natCast_one] at hsl
    generalize cutA (some ⟨b, o, none⟩) c 1 3 = A' at hsl hT
    have hI := fun (W : World) (hw : Below w.heap.size w W) => indexSlots 62 (fun s => s.kind == 0) A' (n - 1) (c - 1) w.heap.size (l.drop 1) W (hT.below hw (Nat.le_refl _)) hw.size (by omega) (fun _ _ => by kernel_rfl) (fun s tA tn tc W hW hs => freefn_any _ s tA tn tc W hW hs)
    clear hT h
    generalize hi : indexOf (fun s : Slot => s.kind == 0) (l.drop 1) = i at hI
    have HI := Lib.hid hI
    clear hI
    rcases indexOf_cases (fun s : Slot => s.kind == 0) (l.drop 1) with hm | ⟨hp1, hp2⟩
    · have HG := Lib.hid (grab_miss he (by omega))
      rw [hi] at hm
      subst hm
      by_cases h40 : n = 40
      · have g40 : ((n : Int) == 40) = true := by simp; omega
        obtain ⟨r1, r2⟩ := HG.out.1 (by omega)
        have R := Lib.hid (And.intro r1 r2)
        clear r1 r2 HG hi he h40 hln
        go_enter Try.func70, Try.ntmps70
        go_wp2_with (first | (go_at_call 61; refine HK.out.mono ?_; rintro e w' ⟨rfl, hb'⟩) | (go_at_call 95; refine (HI.out _ hb').mono ?_; rintro e w'' ⟨rfl, hb''⟩))
        go_ret2
        exact ⟨ret_ii R.out.1 R.out.2, hb'.trans (hb''.mono hb'.size)⟩
      · have g40 : ((n : Int) == 40) = false := by simp; omega
        obtain ⟨r1, r2⟩ := HG.out.2 (by omega)
        rw [hln] at r1
        have R := Lib.hid (And.intro r1 r2)
        clear r1 r2 HG hi he h40 hln
        go_enter Try.func70, Try.ntmps70
        go_wp2_with (first | (go_at_call 61; refine HK.out.mono ?_; rintro e w' ⟨rfl, hb'⟩) | (go_at_call 95; refine (HI.out _ hb').mono ?_; rintro e w'' ⟨rfl, hb''⟩))
        go_ret2
        exact ⟨ret_ii R.out.1 R.out.2, hb'.trans (hb''.mono hb'.size)⟩
    · rw [List.length_drop] at hp2
      rw [hi] at hp1 hp2
      have R := Lib.hid (grab_hit he i hi hp1)
      clear hi he hln
      go_enter Try.func70, Try.ntmps70
      go_wp2_with (first | (go_at_call 61; refine HK.out.mono ?_; rintro e w' ⟨rfl, hb'⟩) | (go_at_call 95; refine (HI.out _ hb').mono ?_; rintro e w'' ⟨rfl, hb''⟩))
      go_ret2
      exact ⟨ret_ii R.out.1 R.out.2, hb'.trans (hb''.mono hb'.size)⟩
  · have HV := Lib.hid (grab_bad he)
    have he' : (slotsErr l != 0) = true := by simpa using he
    clear h he
    go_enter Try.func70, Try.ntmps70
    go_wp2_with (go_at_call 61; refine HK.out.mono ?_; rintro e w' ⟨rfl, hb'⟩)
    go_ret2
    exact ⟨ret_ii HV.out.1 HV.out.2, hb'⟩

theorem entries_no {m : Img} {k : Nat} (h : int m.root k ≤ 0) : entriesAt m k = [0, 0, 0, 0] := by unfold entriesAt; rw [if_neg (by omega)]
theorem entries_yes {m : Img} {k j : Nat} {s : Slot} (h : int m.root k = (j : Nat)) (hj : 1 ≤ j) (hs : m.slots[j]? = some s) : entriesAt m k = s.table := by unfold entriesAt; rw [if_pos (by omega), h, tableAt_at hs]
/-- The k-th entry of a Root tells a table, or nothing. -/
def RootOk (m : Img) (k : Nat) : Prop := int m.root k ≤ 0 ∨ ∃ j s, int m.root k = (j : Nat) ∧ 1 ≤ j ∧ m.slots[j]? = some s ∧ s.table.length = 4

set_option maxRecDepth 100000 in
set_option maxHeartbeats 1000000 in
theorem entries_any (b : Nat) (v : IV) (m : Img) (k : Nat) (w : World) (h : ImgR w w.heap.size v m) (hx : Box w b m.guest v) (hk : k < v.rn) (hr : RootOk m k) :
    Calls Try.prog 33 #[.pointer (some ⟨b, 0, none⟩), .int .i64 (k : Nat)] w (OwnRes w.heap.size 3 1 4 (ints (entriesAt m k)) w) := by
  obtain ⟨b1, o1, t, hA, hb1, ht, c1⟩ := h.root.at1 hk
  have hrn : v.rn ≤ 4611686018427387903 := h.rcap.1
  have hit := int_at ht
  obtain ⟨rA, rn, rc, sA, sn, sc, fA, fn, fc, pA, pn, pc⟩ := v
  obtain ⟨x0, x1, x2, x3, x4⟩ := hx
  dsimp only at *
  subst hA
  have e0 : (0 : Int) ≤ (k : Int) := by omega
  have e1 : (k : Int) < (rn : Int) := by omega
  rcases hr with h0 | ⟨j, s, hj, hj1, hs, hl⟩
  · rw [hit] at h0
    have R := Lib.hid (entries_no (m := m) (k := k) (by rw [hit]; exact h0))
    have HM : ∀ W : World, (Instr.makeSlice 22 (.int .i64 4) (.int .i64 4)).run Try.prog W = .ok (.slice (some ⟨W.heap.size, 0, none⟩) 4 4) (W.alloc (.cells (ints (List.replicate 4 0)).toArray 3)) := fun W => make_ints 4 (by omega) W
    have hown := own_of_block (heap_alloc_new w (.cells (ints (List.replicate 4 0)).toArray 3)) (Nat.le_refl _) (show (ints (List.replicate 4 0)).length = 4 from rfl) (by unfold maxLen; omega)
    have HO := Lib.hid hown
    clear h ht hit hown
    go_enter Try.func33, Try.ntmps33
    go_wp2_with fail
    go_ret
    exact ⟨_, _, rfl, by rw [R.out]; exact HO.out, below1 _ _, Nat.le_refl _, by unfold maxLen; omega⟩
  · have hjl : j < sn := by have := h.slen; have := (List.getElem?_eq_some_iff.1 hs).1; dsimp only at *; omega
    obtain ⟨b2, o2, s2, tA, tn, tc, rfl, hb2, hx2, d0, d1, d2, hsv⟩ := h.slots.at_ (k := j) hjl
    rw [hs] at hx2
    injection hx2 with hx2
    subst hx2
    obtain rfl : tn = 4 := by have := hsv.table.len; omega
    have R := Lib.hid (entries_yes hj hj1 hs)
    have KC := Lib.hid (cloneInts tA 4 tc (ints s.table) w hsv.table (one_ints _) (by omega))
    rw [hit] at hj
    subst hj
    have e2 : (0 : Int) < (j : Int) := by omega
    have e3 : (j : Int) < (sn : Int) := by omega
    have e4 : (0 : Int) ≤ (j : Int) := by omega
    clear h ht hit hs hsv hl d0 d1
    go_enter Try.func33, Try.ntmps33
    go_wp2_with fail
    refine KC.out.mono ?_
    rintro e w1 ⟨A1, c1', rfl, ho, hb, hc1, hc2⟩
    go_wp2_with fail
    go_ret
    exact ⟨_, _, rfl, by rw [R.out]; exact ho, hb, hc1, hc2⟩

theorem laid_len {l : List Slot} {n : Nat} {s : Slot} : (laid l n s).length = if n = l.length then l.length + 1 else l.length := by unfold laid; split <;> simp
/-- What grab's panic bears. -/
abbrev fullV : Value := .iface 89 (.agg #[])
/-- The desk: a box of its type at b, an image of the call's own in it. -/
structure DeskAt (w : World) (base : Nat) (tg : Nat → Nat) (b : Nat) (v : IV) (q : List SV) (p : List PV) (m : Img) : Prop where
  own : OwnI w base tg v q p m
  box : Box w b m.guest v
  ty : BoxG w b 54
  lo : base ≤ b
theorem DeskAt.next {w w' : World} {base : Nat} {tg : Nat → Nat} {b : Nat} {v : IV} {q : List SV} {p : List PV} {m : Img} (h : DeskAt w base tg b v q p m) (hb : Below w.heap.size w w') : DeskAt w' base tg b v q p m :=
  ⟨h.own.next hb, h.box.keep hb h.ty.ty.lt, h.ty.next hb, h.lo⟩

set_option maxRecDepth 100000 in
set_option maxHeartbeats 1000000 in
theorem grab_full (base : Nat) (tg : Nat → Nat) (b : Nat) (v : IV) (q : List SV) (p : List PV) (m : Img) (s : Slot) (A : Option Addr) (n c : Nat) (w : World) (h : DeskAt w base tg b v q p m) (hs : slotsErr m.slots = 0) (hg : grab m.slots = 0) :
    Calls Try.prog 34 #[.pointer (some ⟨b, 0, none⟩), .agg #[.int .i64 s.kind, .string s.data, .slice A n c]] w fun e w' => e = .panicked [{ v := fullV, recovered := false }] ∧ Below w.heap.size w w' := by
  have hI := h.own.imgR
  have K1' := fun W (hb : Below w.heap.size w W) => grab2_any v.sA v.sn v.sc m.slots W (hI.next hb).slots hI.sle hI.scap.1
  rw [show grabN m.slots = 0 from by unfold grabN; rw [if_pos hs, hg]; rfl, show grabE m.slots = 7 from by unfold grabE; rw [if_pos hs, if_pos hg]] at K1'
  have K1 := Lib.hid K1'
  have HBX := Lib.hid h.box
  have hbl := h.ty.ty.lt
  obtain ⟨rA, rn, rc, sA, sn, sc, fA, fn, fc, pA, pn, pc⟩ := v
  dsimp only at K1
  have HB1 := below1 w (.cells #[.int .i64 s.kind, .string s.data, .slice A n c] 56)
  obtain ⟨x0, x1, x2, x3, x4⟩ := HBX.out.keep HB1 hbl
  dsimp only at x0 x1 x2 x3 x4
  clear h hI K1' hs hg
  go_enter Try.func34, Try.ntmps34
  go_wp2_with fail
  refine (K1.out _ HB1).mono ?_
  rintro e w1 ⟨rfl, hb1⟩
  have T1 := Lib.hid (below_next HB1 hb1)
  clear hb1
  go_wp2_with fail
  exact ⟨rfl, rfl, T1.out⟩
end Go.Proofs.Ytpboapeoejdipaa
