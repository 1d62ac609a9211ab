/- The texts Entry3, Repl, EntryW in one. Conditions: as each says. -/
import Derived.Test.YtmdjoafbckphfaaSlotsA
import Derived.Test.YtmdjoafbckphfaaPureE
import Derived.Test.YtmdjoafbckphfaaMemA
import Derived.StillTailTactics
import Derived.Test.YtmdjoafbckphfaaSame
-- Entry3: entry.Cut, and the reference's CutOf and WithOf. Conditions: the entries are read in blocks below the heap's size.
namespace Go.Proofs.Ytmdjoafbckphfaa
open Go.RowKit Sl

theorem own_some_ {w : World} {base size n c : Nat} {e : TypeId} {A : Option Addr} {xs : List Value} (h : w.ownsRow base e size (.slice A n c) n xs) (hn : 0 < n) : ∃ g, A = some ⟨g, 0, none⟩ ∧ base ≤ g ∧ g < w.heap.size := by
  rcases h.2 with ⟨hv, rfl⟩ | ⟨g, cap, cur, hv, hb, hh, _⟩
  · omega
  · simp only [Value.slice.injEq] at hv
    obtain ⟨rfl, _, _⟩ := hv
    exact ⟨g, rfl, hb, (Array.getElem?_eq_some_iff.1 hh).1⟩
/-- What a function answers that makes a slice of integers of its own, and an error. -/
def IntsPair (base : Nat) (xs : List Int) (er : Int) (w : World) (e : Ending) (w' : World) : Prop :=
  ∃ A n c, e = .returned (.tuple #[.slice A n c, .int .i64 er]) ∧ w'.ownsRow base 3 1 (.slice A n c) n (ints xs) ∧ Below base w w' ∧ n ≤ c ∧ c ≤ maxLen
theorem IntsPair.mk_nil {base : Nat} {xs : List Int} {er er' : Int} {w w' : World} (hx : xs = []) (he : er = er') (hb : Below base w w') : IntsPair base xs er w (.returned (.tuple #[.slice none 0 0, .int .i64 er'])) w' := by
  subst hx; subst he
  exact ⟨none, 0, 0, rfl, World.ownsRow_nil _ _ _ _, hb, Nat.le_refl _, by simp⟩
theorem oneCell_ints (l : List Int) : ∀ u ∈ ints l, u.oneCell' = true := by
  intro u hu
  obtain ⟨s, _, rfl⟩ := List.mem_map.1 hu
  rfl
theorem ints_take (l : List Int) (k : Nat) : (ints l).take k = ints (l.take k) := by simp [ints, List.map_take]

set_option maxRecDepth 100000 in
set_option maxHeartbeats 1000000 in
theorem ecut_any (A : Option Addr) (n c : Nat) (t : List Int) (x : Int) (w : World) (h : Rd w w.heap.size 1 A n (ints t)) (hn : n ≤ c) (hc : n ≤ maxLen) :
    Calls Try.prog 40 #[.slice A n c, .int .i64 x] w (IntsPair w.heap.size (cutV t x) (cutE t x) w) := by
  have HK := Lib.hid (echeck_any A n c w.heap.size t w h hc)
  by_cases he : entriesErr t = 0
  · rw [he] at HK
    obtain ⟨l4, _⟩ := entriesErr_is he
    have hln := h.len
    by_cases hx : 0 ≤ x ∧ x ≤ 4
    · obtain ⟨m, rfl⟩ := Int.eq_ofNat_of_zero_le hx.1
      have hm4 : m ≤ 4 := by omega
      have R := Lib.hid (cut_ok (m := m) he hm4)
      have hsl := fun W => run_upto (P := Try.prog) 23 3 1 Try.underlying23 (fun W => by kernel_rfl) A n c m (by omega) W
      have hmk : ∀ W : World, (Instr.makeSlice 23 (.int .i64 4) (.int .i64 4)).run Try.prog W = .ok (.slice (some ⟨W.heap.size, 0, none⟩) 4 4) (W.alloc (.cells #[.int .i64 0, .int .i64 0, .int .i64 0, .int .i64 0] 3)) := fun _ => by kernel_rfl
      have ht := h.take (k := m) (by omega)
      rw [Nat.mul_one, ints_take] at ht
      obtain ⟨W2, c1, c2, c3⟩ := run_cp (P := Try.prog) (w.alloc (.cells #[.int .i64 0, .int .i64 0, .int .i64 0, .int .i64 0] 3)) 23 23 3 3 Try.underlying23 (by kernel_rfl) w.heap.size 0 4 4 (some ⟨w.heap.size, 0, none⟩) A m c
        #[.int .i64 0, .int .i64 0, .int .i64 0, .int .i64 0] 3 (heap_alloc_new w _) w.heap.size (ints (t.take m)) (ht.below ((Below.refl _ _).alloc (Nat.le_refl _) _) (Nat.le_refl _)) (fun _ => rfl) hm4 (by simp; omega) (oneCell_ints _)
      have hfin : splice [Value.int .i64 0, .int .i64 0, .int .i64 0, .int .i64 0] 0 (ints (t.take m)) = ints (cutL t m) := by
        unfold splice cutL ints
        rw [List.take_zero, List.nil_append, List.map_append, List.map_replicate, List.length_map, List.length_take, Nat.zero_add, l4, Nat.min_eq_left hm4]
        congr 1
        rw [show ([Value.int .i64 0, .int .i64 0, .int .i64 0, .int .i64 0] : List Value) = List.replicate 4 (.int .i64 0) from rfl, List.drop_replicate]
      have hb2 := c3.below ((Below.refl w.heap.size w).alloc (Nat.le_refl _) _) (Nat.le_refl _)
      rw [show (#[Value.int .i64 0, .int .i64 0, .int .i64 0, .int .i64 0] : Array Value).toList = [Value.int .i64 0, .int .i64 0, .int .i64 0, .int .i64 0] from rfl, hfin] at c2
      have ho := own_of_block (base := w.heap.size) c2 (Nat.le_refl _) (n := 4) (by simp [ints, cutL]; omega) (by unfold maxLen; omega)
      have HO := Lib.hid ho
      have HC := Lib.hid c1
      clear h he hx ht l4 hln ho c1 c2 c3 hfin
      go_enter Try.func40, Try.ntmps40
      go_wp2_with (first | (go_at_call 62; refine HK.out.mono ?_; rintro e w1 ⟨rfl, rfl⟩) | (refine wpList_cp rfl _ _ _ _ _ rfl rfl rfl rfl HC.out ?_))
      go_ret2
      exact ⟨_, 4, 4, by rw [R.out.1]; rfl, by rw [R.out.2]; exact HO.out, hb2, Nat.le_refl _, by unfold maxLen; omega⟩
    · have R := Lib.hid (cut_out (n := x) he hx)
      clear h he hln l4
      have hx' : x < 0 ∨ (0 ≤ x ∧ 4 < x) := by omega
      rcases hx' with hx' | ⟨hx1, hx2⟩
      all_goals
        go_enter Try.func40, Try.ntmps40
        go_wp2_with (go_at_call 62; refine HK.out.mono ?_; rintro e w1 ⟨rfl, rfl⟩)
        go_ret2
        exact IntsPair.mk_nil R.out.2 R.out.1 (Below.refl _ _)
  · have R := Lib.hid (cut_no (n := x) he)
    have he' : (entriesErr t != 0) = true := by simpa using he
    clear h he
    go_enter Try.func40, Try.ntmps40
    go_wp2_with (go_at_call 62; refine HK.out.mono ?_; rintro e w1 ⟨rfl, rfl⟩)
    go_ret2
    exact IntsPair.mk_nil R.out.2 R.out.1 (Below.refl _ _)

theorem ints_set (t : List Int) (k : Nat) (e : Int) : (ints t).set k (.int .i64 e) = ints (t.set k e) := by simp [ints, List.map_set]
/-- What the reference's loop has cut after it has come to k. -/
def zeroed (t : List Int) (m k : Nat) : List Int := t.take m ++ List.replicate (k - m) 0 ++ t.drop k
theorem zeroed_start (t : List Int) (m : Nat) : zeroed t m m = t := by simp [zeroed]
theorem zeroed_succ (t : List Int) (m k : Nat) (hm : m ≤ k) (hk : k < t.length) : (zeroed t m k).set k 0 = zeroed t m (k + 1) := by
  unfold zeroed
  have hl : (t.take m ++ List.replicate (k - m) 0).length = k := by rw [List.length_append, List.length_take, List.length_replicate]; omega
  rw [List.set_append_right _ _ (by omega), hl, Nat.sub_self, List.drop_eq_getElem_cons hk, List.set_cons_zero, show k + 1 - m = (k - m) + 1 from by omega, List.replicate_succ']
  simp
theorem zeroed_end (t : List Int) (m : Nat) (h : t.length = 4) : zeroed t m 4 = cutL t m := by
  unfold zeroed cutL; rw [List.drop_of_length_le (by omega), List.append_nil]
theorem zeroed_len (t : List Int) (m k : Nat) (hm : m ≤ k) (hk : k ≤ t.length) : (zeroed t m k).length = t.length := by
  unfold zeroed; rw [List.length_append, List.length_append, List.length_take, List.length_replicate, List.length_drop]; omega

end Go.Proofs.Ytmdjoafbckphfaa
-- Repl: slices.Replace at a row of four entries of the call's own, one of them replaced. Conditions: those.
namespace Go.Proofs.Ytmdjoafbckphfaa
open Go.RowKit Sl

theorem splice_one (L : List Value) (k : Nat) (y : Value) (hk : k < 4) (hL : 4 ≤ L.length) : (splice L k [y]).take 4 = (L.take 4).set k y ∧ (splice L k [y]).length = L.length := by
  unfold splice
  refine ⟨?_, by simp; omega⟩
  apply List.ext_getElem?
  intro j
  rw [List.getElem?_take, List.getElem?_set, List.length_take, List.getElem?_take]
  by_cases h4 : j < 4
  · rw [if_pos h4, if_pos h4, List.getElem?_append, List.length_take, Nat.min_eq_left (by omega)]
    by_cases h1 : j < k
    · rw [if_pos h1, if_neg (by omega), List.getElem?_take, if_pos h1]
    · rw [if_neg h1]
      by_cases h2 : k = j
      · subst h2
        rw [if_pos rfl, if_pos (by omega), Nat.sub_self]; rfl
      · rw [if_neg h2, show j - k = (j - k - 1) + 1 from by omega, List.singleton_append, List.getElem?_cons_succ, List.getElem?_drop]
        congr 1
        simp; omega
  · rw [if_neg h4, if_neg h4]
    by_cases h2 : k = j
    · omega
    · rw [if_neg h2]
theorem splice_self (L : List Value) (k : Nat) (hk : k ≤ 4) (hL : 4 ≤ L.length) : splice L k ((L.take 4).drop k) = L := by
  unfold splice
  rw [List.length_drop, List.length_take, Nat.min_eq_left hL, show k + (4 - k) = 4 from by omega]
  have : L.take k = (L.take 4).take k := by rw [List.take_take, Nat.min_eq_left hk]
  rw [this, ← List.append_assoc, List.take_append_drop, List.take_append_drop]

theorem clear_none (A : Option Addr) (n : Nat) (W : World) : (Builtin.clear_ #[23] 0 #[.slice A 0 n]).run Try.prog W = .ok (.tuple #[]) W := by
  cases A <;> simp [Builtin.clear_, run_underlying Try.underlying23]

end Go.Proofs.Ytmdjoafbckphfaa
-- EntryW: slices.Replace at whatever place, entry.With, the reference's Bare. Conditions: the slice is read below the heap's size.
namespace Go.Proofs.Ytmdjoafbckphfaa
open Go.RowKit Sl

/-- The slice is read as the numbers l, wherever it lies. -/
def GotI (w : World) (A : Option Addr) (n : Nat) (l : List Int) : Prop := Rd w w.heap.size 1 A n (ints l)
theorem GotI.next {w w' : World} {A : Option Addr} {n : Nat} {l : List Int} (h : GotI w A n l) (hb : Below w.heap.size w w') : GotI w' A n l := (Rd.below h hb (Nat.le_refl _)).more hb.size
theorem GotI.fresh (w : World) (cs : Array Value) (T : TypeId) (n : Nat) (l : List Int) (h : cs.toList = ints l) (hn : l.length = n) : GotI (w.alloc (.cells cs T)) (some ⟨w.heap.size, 0, none⟩) n l :=
  Rd.of_block (heap_alloc_new w _) (by simp) h (by simp [ints, hn])
theorem withV_len (t : List Int) (k e : Int) : (withV t k e).length ≤ 4 := by
  unfold withV; split
  · rename_i h
    unfold withE at h
    split at h
    · rename_i h1; rw [List.length_set]; have := (entriesErr_is h1).1; omega
    · omega
  · simp
theorem cutV_len (t : List Int) (n : Int) : (cutV t n).length ≤ 4 := by
  unfold cutV; split
  · rename_i h
    unfold cutE at h
    split at h
    · rename_i h1; split at h
      · have := (entriesErr_is h1).1; unfold cutL; simp; omega
      · omega
    · omega
  · simp

def bare0 : List Int := [0, 0, 0, 0]
end Go.Proofs.Ytmdjoafbckphfaa
