/- slots.Check. Conditions: the table is read in a block below B; the sizes are those of values that are read. -/
import Derived.Test.YtnjjnioilbnnpaaEntry2
import Derived.Test.YtnjjnioilbnnpaaMapLit
namespace Go.Proofs.Ytnjjnioilbnnpaa
open Go.RowKit Sl

theorem rule0_any (b o : Nat) (d : ByteArray) (A : Option Addr) (n c : Nat) (w : World) (h1 : w.cell? ⟨b, o + 1, none⟩ = some (.string d)) (h2 : w.cell? ⟨b, o + 2, none⟩ = some (.slice A n c)) (hd : d.size ≤ 4611686018427387903) (hn : n ≤ 4611686018427387903) :
    Calls Try.prog 88 #[.pointer (some ⟨b, o, none⟩)] w fun e w' => e = .returned (.bool (d.size == 0 && n == 0)) ∧ w = w' := by
  go_enter Try.func88, Try.ntmps88
  go_wp2
  go_ret
  refine ⟨ret_bool ?_, rfl⟩
  rw [Bool.eq_iff_iff]; simp only [Bool.and_eq_true, beq_iff_eq]; omega
theorem rule1_any (b o : Nat) (d : ByteArray) (A : Option Addr) (n c : Nat) (w : World) (h1 : w.cell? ⟨b, o + 1, none⟩ = some (.string d)) (h2 : w.cell? ⟨b, o + 2, none⟩ = some (.slice A n c)) :
    Calls Try.prog 89 #[.pointer (some ⟨b, o, none⟩)] w fun e w' => e = .returned (.bool (d.size == 4 && n == 0)) ∧ w = w' := by
  cases h4 : ((d.size : Int) == 4)
  · go_enter Try.func89, Try.ntmps89
    go_wp2
    go_ret
    refine ⟨ret_bool ?_, rfl⟩
    have : (d.size == 4) = false := by rw [beq_eq_false_iff_ne] at h4 ⊢; omega
    rw [this]; rfl
  · go_enter Try.func89, Try.ntmps89
    go_wp2
    go_ret
    refine ⟨ret_bool ?_, rfl⟩
    rw [beq_iff_eq] at h4
    rw [Bool.eq_iff_iff]; simp only [Bool.and_eq_true, beq_iff_eq]; omega
theorem size_empty (d : ByteArray) : d.toList.isEmpty = (d.size == 0) := by
  rw [Bool.eq_iff_iff]
  rw [List.isEmpty_iff, beq_iff_eq, ← List.length_eq_zero_iff, ByteArray.toList_eq]
  rfl
theorem rule2_any (b o B : Nat) (d : ByteArray) (A : Option Addr) (n c : Nat) (xs : List Int) (w : World) (h : Rd w B 1 A n (ints xs)) (h1 : w.cell? ⟨b, o + 1, none⟩ = some (.string d)) (h2 : w.cell? ⟨b, o + 2, none⟩ = some (.slice A n c)) (hn : n ≤ maxLen) :
    Calls Try.prog 90 #[.pointer (some ⟨b, o, none⟩)] w fun e w' => e = .returned (.bool (d.size == 0 && entriesErr xs == 0 && !bare xs)) ∧ w = w' := by
  have HK := Lib.hid (ebare_any A n c B xs w h hn)
  clear hn h
  have HE := Lib.hid (size_empty d)
  cases hd : d.toList.isEmpty
  · go_enter Try.func90, Try.ntmps90
    go_wp2_with (go_at_call 91; refine HK.out.mono ?_; rintro e w' ⟨rfl, rfl⟩)
    go_ret
    exact ⟨ret_bool (by rw [← HE.out, hd]; rfl), rfl⟩
  · have HD : d.size == 0 := by rw [← HE.out, hd]
    clear HE
    cases he : (entriesErr xs == 0)
    · go_enter Try.func90, Try.ntmps90
      go_wp2_with (go_at_call 91; refine HK.out.mono ?_; rintro e w' ⟨rfl, rfl⟩)
      go_ret
      exact ⟨ret_bool (by rw [HD]; rfl), rfl⟩
    · have HV : bareAns xs = bare xs := by unfold bareAns; rw [he]; rfl
      cases hb : bare xs
      all_goals
        rw [hb] at HV
        go_enter Try.func90, Try.ntmps90
        go_wp2_with (go_at_call 91; refine HK.out.mono ?_; rintro e w' ⟨rfl, rfl⟩)
        go_ret
        exact ⟨ret_bool (by rw [HD]; rfl), rfl⟩

theorem zero_func (W : World) : (zeroValue 27).run Try.prog W = .ok .nilFunc W := by kernel_rfl
section
variable (W : World) (b : Nat) (hb : W.heap.size = b) (v v0 v1 v2 : Value)
include hb
theorem rules0 : (Instr.mapUpdate 99 (.map (some b)) (.int .i64 0) v).run Try.prog (W.alloc (.map #[] 0)) = .ok () (W.alloc (.map #[⟨.int .i64 0, v, 0⟩] 1)) :=
  run_put_lit (P := Try.prog) Try.underlying99 Try.underlying3 W b hb #[] 0 0 v (by simp)
theorem rules1 : (Instr.mapUpdate 99 (.map (some b)) (.int .i64 1) v).run Try.prog (W.alloc (.map #[⟨.int .i64 0, v0, 0⟩] 1)) = .ok () (W.alloc (.map #[⟨.int .i64 0, v0, 0⟩, ⟨.int .i64 1, v, 1⟩] 2)) :=
  run_put_lit (P := Try.prog) Try.underlying99 Try.underlying3 W b hb #[⟨.int .i64 0, v0, 0⟩] 1 1 v (by simp)
theorem rules2 : (Instr.mapUpdate 99 (.map (some b)) (.int .i64 2) v).run Try.prog (W.alloc (.map #[⟨.int .i64 0, v0, 0⟩, ⟨.int .i64 1, v1, 1⟩] 2)) =
    .ok () (W.alloc (.map #[⟨.int .i64 0, v0, 0⟩, ⟨.int .i64 1, v1, 1⟩, ⟨.int .i64 2, v, 2⟩] 3)) :=
  run_put_lit (P := Try.prog) Try.underlying99 Try.underlying3 W b hb #[⟨.int .i64 0, v0, 0⟩, ⟨.int .i64 1, v1, 1⟩] 2 2 v (by simp)
theorem rules_at (k : Int) (i : Nat) (hf : Instr.findNow (.int .i64) (.int .i64 k) [⟨.int .i64 0, v0, 0⟩, ⟨.int .i64 1, v1, 1⟩, ⟨.int .i64 2, v2, 2⟩] 0 = some (some (i, v))) :
    (Instr.lookup 99 (.map (some b)) (.int .i64 k) true).run Try.prog (W.alloc (.map #[⟨.int .i64 0, v0, 0⟩, ⟨.int .i64 1, v1, 1⟩, ⟨.int .i64 2, v2, 2⟩] 3)) =
    .ok (.tuple #[v, .bool true]) (W.alloc (.map #[⟨.int .i64 0, v0, 0⟩, ⟨.int .i64 1, v1, 1⟩, ⟨.int .i64 2, v2, 2⟩] 3)) :=
  run_look_lit (P := Try.prog) Try.underlying99 Try.underlying3 _ b _ _ (by rw [← hb]; exact heap_alloc_new W _) k i v hf
theorem rules_no (k : Int) (h0 : k ≠ 0) (h1 : k ≠ 1) (h2 : k ≠ 2) :
    (Instr.lookup 99 (.map (some b)) (.int .i64 k) true).run Try.prog (W.alloc (.map #[⟨.int .i64 0, v0, 0⟩, ⟨.int .i64 1, v1, 1⟩, ⟨.int .i64 2, v2, 2⟩] 3)) =
    .ok (.tuple #[.nilFunc, .bool false]) (W.alloc (.map #[⟨.int .i64 0, v0, 0⟩, ⟨.int .i64 1, v1, 1⟩, ⟨.int .i64 2, v2, 2⟩] 3)) :=
  run_miss_lit (P := Try.prog) Try.underlying99 Try.underlying3 _ b _ _ (by rw [← hb]; exact heap_alloc_new W _) k .nilFunc (zero_func _) (by simp; omega)
end

set_option maxRecDepth 100000 in
set_option maxHeartbeats 400000 in
theorem scheck_no (kind : Int) (data : ByteArray) (A : Option Addr) (n c : Nat) (w : World) (h0 : kind ≠ 0) (h1 : kind ≠ 1) (h2 : kind ≠ 2) :
    Calls Try.prog 81 #[.agg #[.int .i64 kind, .string data, .slice A n c]] w
    fun e w' => e = .returned (.int .i64 1) ∧ Below w.heap.size w w' := by
  have hmm := fun W => run_makeMap (P := Try.prog) 99 W
  have u1 := rules0; have u2 := rules1; have u3 := rules2
  have u4 := fun W b hb v0 v1 v2 => rules_no W b hb v0 v1 v2 kind h0 h1 h2
  clear h0 h1 h2
  go_enter Try.func81, Try.ntmps81
  go_wp2_with fail
  go_ret
  exact ⟨rfl, ((Below.refl _ _).alloc (Nat.le_refl _) _).alloc (by simp) _⟩

theorem find0 (v0 v1 v2 : Value) : Instr.findNow (.int .i64) (.int .i64 0) [⟨.int .i64 0, v0, 0⟩, ⟨.int .i64 1, v1, 1⟩, ⟨.int .i64 2, v2, 2⟩] 0 = some (some (0, v0)) := rfl
theorem find1 (v0 v1 v2 : Value) : Instr.findNow (.int .i64) (.int .i64 1) [⟨.int .i64 0, v0, 0⟩, ⟨.int .i64 1, v1, 1⟩, ⟨.int .i64 2, v2, 2⟩] 0 = some (some (1, v1)) := rfl
theorem find2 (v0 v1 v2 : Value) : Instr.findNow (.int .i64) (.int .i64 2) [⟨.int .i64 0, v0, 0⟩, ⟨.int .i64 1, v1, 1⟩, ⟨.int .i64 2, v2, 2⟩] 0 = some (some (2, v2)) := rfl
/-- The error of a check. -/
def errOf (b : Bool) : Int := if b then 0 else 1

theorem cell_box2 (w : World) (cs : Array Value) (T : TypeId) (o : Obj) (j : Nat) : ((w.alloc (.cells cs T)).alloc o).cell? ⟨w.heap.size, j, none⟩ = cs[j]? := by
  rw [World.cell?_alloc_lt _ _ _ (by simp)]
  exact cell_of_row _ _ j cs T (0, 0) (heap_alloc_new w _)
theorem below2 (w : World) (o o' : Obj) : Below w.heap.size w ((w.alloc o).alloc o') := ((Below.refl _ _).alloc (Nat.le_refl _) _).alloc (by simp) _

set_option maxRecDepth 100000 in
set_option maxHeartbeats 400000 in
theorem scheck_0 (data : ByteArray) (A : Option Addr) (n c : Nat) (w : World) (hc : n ≤ 4611686018427387903) (hd : data.size ≤ 4611686018427387903) :
    Calls Try.prog 81 #[.agg #[.int .i64 0, .string data, .slice A n c]] w
    fun e w' => e = .returned (.int .i64 (errOf (data.size == 0 && n == 0))) ∧ Below w.heap.size w w' := by
  have hmm := fun W => run_makeMap (P := Try.prog) 99 W
  have u1 := rules0; have u2 := rules1; have u3 := rules2
  have u4 := fun W b hb v0 v1 v2 => rules_at W b hb v0 v0 v1 v2 0 0 (find0 v0 v1 v2)
  cases hv : (data.size == 0 && n == 0)
  all_goals
    have HC := fun cs T o (h1 : cs[0 + 1]? = some (.string data)) (h2 : cs[0 + 2]? = some (.slice A n c)) => Lib.hid (rule0_any w.heap.size 0 data A n c ((w.alloc (.cells cs T)).alloc o) (by rw [cell_box2]; exact h1) (by rw [cell_box2]; exact h2) hd hc)
    rw [hv] at HC
    clear hv
    go_enter Try.func81, Try.ntmps81
    go_wp2_with (go_at_call 88; refine (HC _ _ _ rfl rfl).out.mono ?_; rintro e w' ⟨rfl, rfl⟩)
    go_ret
    exact ⟨rfl, below2 _ _ _⟩

set_option maxRecDepth 100000 in
set_option maxHeartbeats 400000 in
theorem scheck_1 (data : ByteArray) (A : Option Addr) (n c : Nat) (w : World) :
    Calls Try.prog 81 #[.agg #[.int .i64 1, .string data, .slice A n c]] w
    fun e w' => e = .returned (.int .i64 (errOf (data.size == 4 && n == 0))) ∧ Below w.heap.size w w' := by
  have hmm := fun W => run_makeMap (P := Try.prog) 99 W
  have u1 := rules0; have u2 := rules1; have u3 := rules2
  have u4 := fun W b hb v0 v1 v2 => rules_at W b hb v1 v0 v1 v2 1 1 (find1 v0 v1 v2)
  cases hv : (data.size == 4 && n == 0)
  all_goals
    have HC := fun cs T o (h1 : cs[0 + 1]? = some (.string data)) (h2 : cs[0 + 2]? = some (.slice A n c)) => Lib.hid (rule1_any w.heap.size 0 data A n c ((w.alloc (.cells cs T)).alloc o) (by rw [cell_box2]; exact h1) (by rw [cell_box2]; exact h2))
    rw [hv] at HC
    clear hv
    go_enter Try.func81, Try.ntmps81
    go_wp2_with (go_at_call 89; refine (HC _ _ _ rfl rfl).out.mono ?_; rintro e w' ⟨rfl, rfl⟩)
    go_ret
    exact ⟨rfl, below2 _ _ _⟩

set_option maxRecDepth 100000 in
set_option maxHeartbeats 400000 in
theorem scheck_2 (data : ByteArray) (A : Option Addr) (n c : Nat) (xs : List Int) (w : World) (h : Rd w w.heap.size 1 A n (ints xs)) (hn : n ≤ maxLen) :
    Calls Try.prog 81 #[.agg #[.int .i64 2, .string data, .slice A n c]] w
    fun e w' => e = .returned (.int .i64 (errOf (data.size == 0 && entriesErr xs == 0 && !bare xs))) ∧ Below w.heap.size w w' := by
  have hmm := fun W => run_makeMap (P := Try.prog) 99 W
  have u1 := rules0; have u2 := rules1; have u3 := rules2
  have u4 := fun W b hb v0 v1 v2 => rules_at W b hb v2 v0 v1 v2 2 2 (find2 v0 v1 v2)
  cases hv : (data.size == 0 && entriesErr xs == 0 && !bare xs)
  all_goals
    have HC := fun cs T o (h1 : cs[0 + 1]? = some (.string data)) (h2 : cs[0 + 2]? = some (.slice A n c)) => Lib.hid (rule2_any w.heap.size 0 _ data A n c xs ((w.alloc (.cells cs T)).alloc o) (h.below (below2 _ _ _) (Nat.le_refl _)) (by rw [cell_box2]; exact h1) (by rw [cell_box2]; exact h2) hn)
    rw [hv] at HC
    clear hv h hn
    go_enter Try.func81, Try.ntmps81
    go_wp2_with (go_at_call 90; refine (HC _ _ _ rfl rfl).out.mono ?_; rintro e w' ⟨rfl, rfl⟩)
    go_ret
    exact ⟨rfl, below2 _ _ _⟩

/-- slots.Check: whatever slot it is handed. -/
theorem scheck_any (s : Slot) (A : Option Addr) (n c : Nat) (w : World) (h : Rd w w.heap.size 1 A n (ints s.table)) (hn : n ≤ 4611686018427387903) (hd : s.data.size ≤ 4611686018427387903) :
    Calls Try.prog 81 #[.agg #[.int .i64 s.kind, .string s.data, .slice A n c]] w
    fun e w' => e = .returned (.int .i64 (errOf (slotFine s))) ∧ Below w.heap.size w w' := by
  obtain ⟨k, d, t⟩ := s
  have hl : t.length = n := h.len
  unfold slotFine
  dsimp only at *
  by_cases h0 : k = 0
  · subst h0
    rw [if_pos rfl, hl]
    exact scheck_0 d A n c w hn hd
  · rw [if_neg h0]
    by_cases h1 : k = 1
    · subst h1
      rw [if_pos rfl, hl]
      exact scheck_1 d A n c w
    · rw [if_neg h1]
      by_cases h2 : k = 2
      · subst h2
        rw [if_pos rfl]
        exact scheck_2 d A n c t w h (by unfold maxLen; omega)
      · rw [if_neg h2]
        exact scheck_no k d A n c w h0 h1 h2
end Go.Proofs.Ytnjjnioilbnnpaa
