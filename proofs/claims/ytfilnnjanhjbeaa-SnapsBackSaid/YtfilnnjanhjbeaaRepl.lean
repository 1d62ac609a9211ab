/- The texts Entry3, Repl, EntryW in one. Conditions: as each says. -/
import Derived.Test.YtfilnnjanhjbeaaSlotsA
import Derived.Test.YtfilnnjanhjbeaaPureE
import Derived.Test.YtfilnnjanhjbeaaMemA
import Derived.StillTailTactics
import Derived.Test.YtfilnnjanhjbeaaSame
-- Entry3: entry.Cut, and the reference's CutOf and WithOf. Conditions: the entries are read in blocks below the heap's size.
namespace Go.Proofs.Ytfilnnjanhjbeaa
open Go.RowKit Sl

theorem own_some_ {w : World} {base size n c : Nat} {e : TypeId} {A : Option Addr} {xs : List Value} (h : w.ownsRow base e size (.slice A n c) n xs) (hn : 0 < n) : ∃ g, A = some ⟨g, 0, none⟩ ∧ base ≤ g ∧ g < w.heap.size := by
  rcases h.2 with ⟨hv, rfl⟩ | ⟨g, cap, cur, hv, hb, hh, _⟩
  · omega
  · simp only [Value.slice.injEq] at hv
    obtain ⟨rfl, _, _⟩ := hv
    exact ⟨g, rfl, hb, (Array.getElem?_eq_some_iff.1 hh).1⟩
/-- What a function answers that makes a slice of integers of its own, and an error. -/
def IntsPair (base : Nat) (xs : List Int) (er : Int) (w : World) (e : Ending) (w' : World) : Prop :=
  ∃ A n c, e = .returned (.tuple #[.slice A n c, .int .i64 er]) ∧ w'.ownsRow base 3 1 (.slice A n c) n (ints xs) ∧ Below base w w' ∧ n ≤ c ∧ c ≤ maxLen
theorem IntsPair.mk_nil {base : Nat} {xs : List Int} {er er' : Int} {w w' : World} (hx : xs = []) (he : er = er') (hb : Below base w w') : IntsPair base xs er w (.returned (.tuple #[.slice none 0 0, .int .i64 er'])) w' := by
  subst hx; subst he
  exact ⟨none, 0, 0, rfl, World.ownsRow_nil _ _ _ _, hb, Nat.le_refl _, by simp⟩
theorem oneCell_ints (l : List Int) : ∀ u ∈ ints l, u.oneCell' = true := by
  intro u hu
  obtain ⟨s, _, rfl⟩ := List.mem_map.1 hu
  rfl
theorem ints_take (l : List Int) (k : Nat) : (ints l).take k = ints (l.take k) := by simp [ints, List.map_take]

theorem ints_set (t : List Int) (k : Nat) (e : Int) : (ints t).set k (.int .i64 e) = ints (t.set k e) := by simp [ints, List.map_set]
/-- What the reference's loop has cut after it has come to k. -/
def zeroed (t : List Int) (m k : Nat) : List Int := t.take m ++ List.replicate (k - m) 0 ++ t.drop k
theorem zeroed_start (t : List Int) (m : Nat) : zeroed t m m = t := by simp [zeroed]
theorem zeroed_succ (t : List Int) (m k : Nat) (hm : m ≤ k) (hk : k < t.length) : (zeroed t m k).set k 0 = zeroed t m (k + 1) := by
  unfold zeroed
  have hl : (t.take m ++ List.replicate (k - m) 0).length = k := by rw [List.length_append, List.length_take, List.length_replicate]; omega
  rw [List.set_append_right _ _ (by omega), hl, Nat.sub_self, List.drop_eq_getElem_cons hk, List.set_cons_zero, show k + 1 - m = (k - m) + 1 from by omega, List.replicate_succ']
  simp
theorem zeroed_end (t : List Int) (m : Nat) (h : t.length = 4) : zeroed t m 4 = cutL t m := by
  unfold zeroed cutL; rw [List.drop_of_length_le (by omega), List.append_nil]
theorem zeroed_len (t : List Int) (m k : Nat) (hm : m ≤ k) (hk : k ≤ t.length) : (zeroed t m k).length = t.length := by
  unfold zeroed; rw [List.length_append, List.length_append, List.length_take, List.length_replicate, List.length_drop]; omega

end Go.Proofs.Ytfilnnjanhjbeaa
-- Repl: slices.Replace at a row of four entries of the call's own, one of them replaced. Conditions: those.
namespace Go.Proofs.Ytfilnnjanhjbeaa
open Go.RowKit Sl

theorem splice_one (L : List Value) (k : Nat) (y : Value) (hk : k < 4) (hL : 4 ≤ L.length) : (splice L k [y]).take 4 = (L.take 4).set k y ∧ (splice L k [y]).length = L.length := by
  unfold splice
  refine ⟨?_, by simp; omega⟩
  apply List.ext_getElem?
  intro j
  rw [List.getElem?_take, List.getElem?_set, List.length_take, List.getElem?_take]
  by_cases h4 : j < 4
  · rw [if_pos h4, if_pos h4, List.getElem?_append, List.length_take, Nat.min_eq_left (by omega)]
    by_cases h1 : j < k
    · rw [if_pos h1, if_neg (by omega), List.getElem?_take, if_pos h1]
    · rw [if_neg h1]
      by_cases h2 : k = j
      · subst h2
        rw [if_pos rfl, if_pos (by omega), Nat.sub_self]; rfl
      · rw [if_neg h2, show j - k = (j - k - 1) + 1 from by omega, List.singleton_append, List.getElem?_cons_succ, List.getElem?_drop]
        congr 1
        simp; omega
  · rw [if_neg h4, if_neg h4]
    by_cases h2 : k = j
    · omega
    · rw [if_neg h2]
theorem splice_self (L : List Value) (k : Nat) (hk : k ≤ 4) (hL : 4 ≤ L.length) : splice L k ((L.take 4).drop k) = L := by
  unfold splice
  rw [List.length_drop, List.length_take, Nat.min_eq_left hL, show k + (4 - k) = 4 from by omega]
  have : L.take k = (L.take 4).take k := by rw [List.take_take, Nat.min_eq_left hk]
  rw [this, ← List.append_assoc, List.take_append_drop, List.take_append_drop]

theorem clear_none (A : Option Addr) (n : Nat) (W : World) : (Builtin.clear_ #[22] 0 #[.slice A 0 n]).run Try.prog W = .ok (.tuple #[]) W := by
  cases A <;> simp [Builtin.clear_, run_underlying Try.underlying22]

end Go.Proofs.Ytfilnnjanhjbeaa
-- EntryW: slices.Replace at whatever place, entry.With, the reference's Bare. Conditions: the slice is read below the heap's size.
namespace Go.Proofs.Ytfilnnjanhjbeaa
open Go.RowKit Sl

/-- The slice is read as the numbers l, wherever it lies. -/
def GotI (w : World) (A : Option Addr) (n : Nat) (l : List Int) : Prop := Rd w w.heap.size 1 A n (ints l)
theorem GotI.next {w w' : World} {A : Option Addr} {n : Nat} {l : List Int} (h : GotI w A n l) (hb : Below w.heap.size w w') : GotI w' A n l := (Rd.below h hb (Nat.le_refl _)).more hb.size
theorem GotI.fresh (w : World) (cs : Array Value) (T : TypeId) (n : Nat) (l : List Int) (h : cs.toList = ints l) (hn : l.length = n) : GotI (w.alloc (.cells cs T)) (some ⟨w.heap.size, 0, none⟩) n l :=
  Rd.of_block (heap_alloc_new w _) (by simp) h (by simp [ints, hn])
theorem withV_len (t : List Int) (k e : Int) : (withV t k e).length ≤ 4 := by
  unfold withV; split
  · rename_i h
    unfold withE at h
    split at h
    · rename_i h1; rw [List.length_set]; have := (entriesErr_is h1).1; omega
    · omega
  · simp
theorem cutV_len (t : List Int) (n : Int) : (cutV t n).length ≤ 4 := by
  unfold cutV; split
  · rename_i h
    unfold cutE at h
    split at h
    · rename_i h1; split at h
      · have := (entriesErr_is h1).1; unfold cutL; simp; omega
      · omega
    · omega
  · simp

def bare0 : List Int := [0, 0, 0, 0]
end Go.Proofs.Ytfilnnjanhjbeaa
