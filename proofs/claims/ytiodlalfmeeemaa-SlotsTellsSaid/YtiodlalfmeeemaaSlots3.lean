/- slots.Grab, slots.Used. Conditions: the slots are read in blocks below the heap's size. -/
import Derived.Test.YtiodlalfmeeemaaSlots2
namespace Go.Proofs.Ytiodlalfmeeemaa
open Go.RowKit Sl

theorem freefn_any (B : Nat) (s : Slot) (A : Option Addr) (n c : Nat) (w : World) (_ : B ≤ w.heap.size) (_ : SlotV w B s A n c) :
    Calls Try.prog 52 #[.agg #[.int .i64 s.kind, .string s.data, .slice A n c]] w fun e w' => e = .returned (.bool (s.kind == 0)) ∧ Below w.heap.size w w' := sfree_any _ _ _ w

theorem grab_bad {l : List Slot} (h : slotsErr l ≠ 0) : grabN l = 0 ∧ grabE l = slotsErr l := by unfold grabN grabE; rw [if_neg h, if_neg h]; exact ⟨rfl, rfl⟩
theorem grab_hit {l : List Slot} (h : slotsErr l = 0) (i : Int) (hi : indexOf (fun s => s.kind == 0) (l.drop 1) = i) (h0 : 0 ≤ i) : grabN l = i + 1 ∧ grabE l = 0 := by
  unfold indexOf at hi
  have hg : freeAt (l.drop 1) < (l.drop 1).length := by
    unfold freeAt
    rcases Nat.lt_or_ge (firstAt (fun s : Slot => s.kind == 0) (l.drop 1)) (l.drop 1).length with h | h
    · exact h
    · rw [if_neg (by omega)] at hi; omega
  have hi' : (freeAt (l.drop 1) : Int) = i := by unfold freeAt at *; rw [if_pos hg] at hi; exact hi
  unfold grabN grabE grab
  rw [if_pos h, if_pos h, if_pos hg, if_neg (by omega)]
  exact ⟨by omega, rfl⟩
theorem grab_miss {l : List Slot} (h : slotsErr l = 0) (hi : indexOf (fun s => s.kind == 0) (l.drop 1) < 0) : (l.length = 40 → grabN l = 0 ∧ grabE l = 7) ∧ (l.length ≠ 40 → grabN l = l.length ∧ grabE l = 0) := by
  unfold indexOf at hi
  have hg : ¬ freeAt (l.drop 1) < (l.drop 1).length := by
    intro hg
    unfold freeAt at hg
    rw [if_pos hg] at hi; omega
  have hl : 1 ≤ l.length ∧ l.length ≤ 40 := by
    unfold slotsErr at h
    split at h
    · omega
    · omega
  unfold grabN grabE grab
  rw [if_pos h, if_pos h, if_neg hg]
  refine ⟨fun e => ?_, fun e => ?_⟩
  · rw [if_neg (by omega)]; exact ⟨rfl, rfl⟩
  · rw [if_pos (by omega), if_neg (by omega)]; exact ⟨rfl, rfl⟩
theorem indexOf_cases {α : Type} (p : α → Bool) (l : List α) : indexOf p l = -1 ∨ (0 ≤ indexOf p l ∧ indexOf p l < l.length) := by
  unfold indexOf; split
  · right; omega
  · left; rfl
theorem slotsErr_len {l : List Slot} (h : slotsErr l = 0) : 1 ≤ l.length ∧ l.length ≤ 40 := by
  unfold slotsErr at h
  split at h
  · omega
  · omega

set_option maxRecDepth 100000 in
set_option maxHeartbeats 400000 in
theorem grab_any (A : Option Addr) (n c : Nat) (l : List Slot) (w : World) (h : SlotsR w w.heap.size A n l) (hn : n ≤ c) (hc : c ≤ 4611686018427387903) :
    Calls Try.prog 12 #[.slice A n c] w fun e w' => e = .returned (.tuple #[.int .i64 (grabN l), .int .i64 (grabE l)]) ∧ Below w.heap.size w w' := by
  have HK := Lib.hid (scheckall_any A n c l w h (by omega))
  by_cases he : slotsErr l = 0
  · obtain ⟨l1, l2⟩ := slotsErr_len he
    have hln := h.1
    rw [he] at HK
    obtain ⟨b, o, rfl, hb, _⟩ := h.2 (by omega)
    have hsl := fun W => run_from (P := Try.prog) 25 24 3 Try.underlying25 (fun W => by kernel_rfl) (some ⟨b, o, none⟩) n c 1 (by omega) W
    have hT := h.cut (k := 1) (by omega) hn
    rw [Int.natCast_one] at hsl
    generalize cutA (some ⟨b, o, none⟩) c 1 3 = A' at hsl hT
    have hI := fun (W : World) (hw : Below w.heap.size w W) => indexSlots 52 (fun s => s.kind == 0) A' (n - 1) (c - 1) w.heap.size (l.drop 1) W (hT.below hw (Nat.le_refl _)) hw.size (by omega) (fun _ _ => by kernel_rfl) (fun s tA tn tc W hW hs => freefn_any _ s tA tn tc W hW hs)
    clear hT h
    generalize hi : indexOf (fun s : Slot => s.kind == 0) (l.drop 1) = i at hI
    have HI := Lib.hid hI
    clear hI
    rcases indexOf_cases (fun s : Slot => s.kind == 0) (l.drop 1) with hm | ⟨hp1, hp2⟩
    · have HG := Lib.hid (grab_miss he (by omega))
      rw [hi] at hm
      subst hm
      by_cases h40 : n = 40
      · have g40 : ((n : Int) == 40) = true := by simp; omega
        obtain ⟨r1, r2⟩ := HG.out.1 (by omega)
        have R := Lib.hid (And.intro r1 r2)
        clear r1 r2 HG hi he h40 hln
        go_enter Try.func12, Try.ntmps12
        go_wp2_with (first | (go_at_call 50; refine HK.out.mono ?_; rintro e w' ⟨rfl, hb'⟩) | (go_at_call 51; refine (HI.out _ hb').mono ?_; rintro e w'' ⟨rfl, hb''⟩))
        go_ret2
        exact ⟨ret_ii R.out.1 R.out.2, hb'.trans (hb''.mono hb'.size)⟩
      · have g40 : ((n : Int) == 40) = false := by simp; omega
        obtain ⟨r1, r2⟩ := HG.out.2 (by omega)
        rw [hln] at r1
        have R := Lib.hid (And.intro r1 r2)
        clear r1 r2 HG hi he h40 hln
        go_enter Try.func12, Try.ntmps12
        go_wp2_with (first | (go_at_call 50; refine HK.out.mono ?_; rintro e w' ⟨rfl, hb'⟩) | (go_at_call 51; refine (HI.out _ hb').mono ?_; rintro e w'' ⟨rfl, hb''⟩))
        go_ret2
        exact ⟨ret_ii R.out.1 R.out.2, hb'.trans (hb''.mono hb'.size)⟩
    · rw [List.length_drop] at hp2
      rw [hi] at hp1 hp2
      have R := Lib.hid (grab_hit he i hi hp1)
      clear hi he hln
      go_enter Try.func12, Try.ntmps12
      go_wp2_with (first | (go_at_call 50; refine HK.out.mono ?_; rintro e w' ⟨rfl, hb'⟩) | (go_at_call 51; refine (HI.out _ hb').mono ?_; rintro e w'' ⟨rfl, hb''⟩))
      go_ret2
      exact ⟨ret_ii R.out.1 R.out.2, hb'.trans (hb''.mono hb'.size)⟩
  · have HV := Lib.hid (grab_bad he)
    have he' : (slotsErr l != 0) = true := by simpa using he
    clear h he
    go_enter Try.func12, Try.ntmps12
    go_wp2_with (go_at_call 50; refine HK.out.mono ?_; rintro e w' ⟨rfl, hb'⟩)
    go_ret2
    exact ⟨ret_ii HV.out.1 HV.out.2, hb'⟩
end Go.Proofs.Ytiodlalfmeeemaa
