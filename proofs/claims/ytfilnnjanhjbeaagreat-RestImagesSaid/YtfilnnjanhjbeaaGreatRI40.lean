/- Texts of the proof of restImages_holds: SnAll, PurePk. Conditions: as each text says. -/
import Derived.Test.YtfilnnjanhjbeaaGreatRI34
import Derived.Test.YtfilnnjanhjbeaaGreatRI35
import Derived.Test.YtfilnnjanhjbeaaGreatRI38
import Derived.Test.YtfilnnjanhjbeaaGreatRI39
import Derived.Test.YtfilnnjanhjbeaaGreatRI33
namespace Go.Proofs.YtfilnnjanhjbeaaGreat
open Go.RowKit Sl
theorem create_any (v : IV) (m : Img) (name : ByteArray) (w : World) (h : ImgR w w.heap.size v m) (hsz : name.size ≤ 4611686018427387903) :
    Calls Tryz.prog 8 #[imgV m v, .string name] w (ImgOwn w.heap.size (createI m name) (createE m name) w) := by
  by_cases he : checkErr m = 0
  · by_cases hn : isName name = true
    · by_cases ha : m.snaps.any (named name) = true
      · have e : createE m name = 6 := by unfold createE; rw [if_pos he, if_neg (by rw [hn]; decide), if_pos ha]
        rw [show createI m name = noImg from by unfold createI; rw [e, if_neg (by decide)], e]
        exact create_there v m name w h he hsz hn ha
      · have ha' : m.snaps.any (named name) = false := by simpa using ha
        by_cases h3 : m.snaps.length = 3
        · have e : createE m name = 2 := by unfold createE; rw [if_pos he, if_neg (by rw [hn]; decide), if_neg ha, if_pos h3]
          rw [show createI m name = noImg from by unfold createI; rw [e, if_neg (by decide)], e]
          exact create_many v m name w h he hsz hn ha' h3
        · have e : createE m name = 0 := by unfold createE; rw [if_pos he, if_neg (by rw [hn]; decide), if_neg ha, if_neg h3]
          rw [show createI m name = settled (createX m name) from by unfold createI; rw [if_pos e], e]
          exact create_ok v m name w h e hsz
    · have hn' : isName name = false := by simpa using hn
      have e : createE m name = 4 := by unfold createE; rw [if_pos he, if_pos hn']
      rw [show createI m name = noImg from by unfold createI; rw [e, if_neg (by decide)], e]
      exact create_name v m name w h he hsz hn'
  · have e : createE m name = checkErr m := by unfold createE; rw [if_neg he]
    rw [show createI m name = noImg from by unfold createI; rw [e, if_neg he], e]
    exact create_no v m name w h he
theorem rcreate_any (v : IV) (m : Img) (name : ByteArray) (w : World) (h : ImgR w w.heap.size v m) (hsz : name.size ≤ 4611686018427387903) :
    Calls Tryz.prog 12 #[imgV m v, .string name] w (ImgOwn w.heap.size (createI m name) (createE m name) w) := by
  by_cases he : checkErr m = 0
  · by_cases hn : isName name = true
    · by_cases ha : m.snaps.any (named name) = true
      · have e : createE m name = 6 := by unfold createE; rw [if_pos he, if_neg (by rw [hn]; decide), if_pos ha]
        rw [show createI m name = noImg from by unfold createI; rw [e, if_neg (by decide)], e]
        exact rcreate_there v m name w h he hsz hn ha
      · have ha' : m.snaps.any (named name) = false := by simpa using ha
        by_cases h3 : m.snaps.length = 3
        · have e : createE m name = 2 := by unfold createE; rw [if_pos he, if_neg (by rw [hn]; decide), if_neg ha, if_pos h3]
          rw [show createI m name = noImg from by unfold createI; rw [e, if_neg (by decide)], e]
          exact rcreate_many v m name w h he hsz hn ha' h3
        · have e : createE m name = 0 := by unfold createE; rw [if_pos he, if_neg (by rw [hn]; decide), if_neg ha, if_neg h3]
          rw [show createI m name = settled (createX m name) from by unfold createI; rw [if_pos e], e]
          exact rcreate_ok v m name w h e hsz
    · have hn' : isName name = false := by simpa using hn
      have e : createE m name = 4 := by unfold createE; rw [if_pos he, if_pos hn']
      rw [show createI m name = noImg from by unfold createI; rw [e, if_neg (by decide)], e]
      exact rcreate_name v m name w h he hsz hn'
  · have e : createE m name = checkErr m := by unfold createE; rw [if_neg he]
    rw [show createI m name = noImg from by unfold createI; rw [e, if_neg he], e]
    exact rcreate_no v m name w h he
end Go.Proofs.YtfilnnjanhjbeaaGreat
namespace Go.Proofs.YtfilnnjanhjbeaaGreat
open Sl
def keptS (s : Slot) : Bool := !(s.kind == 0)
def ren (l : List Slot) (e : Int) : Int := if e ≤ 0 then e else ((used (l.take e.toNat) + 1 : Nat) : Int)
def renS (l : List Slot) (s : Slot) : Slot := { s with table := s.table.map (ren l) }
def renP (l : List Slot) (s : Snap) : Snap := { s with root := s.root.map (ren l) }
def packS (l : List Slot) : List Slot := freeSlot :: (l.filter keptS).map (renS l)
def packR (l : List Slot) (f : List Int) : List Int := 0 :: ((l.zip f).filter (fun x => keptS x.1)).map (·.2)
def packM (m : Img) : Img := ⟨m.guest, m.root.map (ren m.slots), packS m.slots, packR m.slots m.refs, m.snaps.map (renP m.slots)⟩
section
variable {l : List Slot}
theorem kept_yes {s : Slot} (h : s.kind ≠ 0) : keptS s = true := by unfold keptS; simpa using h
theorem kept_no {s : Slot} (h : s.kind = 0) : keptS s = false := by unfold keptS; simp [h]
theorem filter_len (l : List Slot) : (l.filter keptS).length = used l := by
  induction l with
  | nil => rfl
  | cons a l ih =>
    by_cases h : a.kind = 0
    · rw [List.filter_cons_of_neg (by rw [kept_no h]; decide), ih]; simp [used, h]
    · rw [List.filter_cons_of_pos (kept_yes h), List.length_cons, ih]; simp [used, h]; omega
theorem used_app (a b : List Slot) : used (a ++ b) = used a + used b := by
  induction a with
  | nil => simp [used]
  | cons x a ih => simp only [List.cons_append, used, ih]; omega
theorem used_mono {n k : Nat} (h : n ≤ k) : used (l.take n) ≤ used (l.take k) := by
  have e : l.take k = l.take n ++ (l.take k).drop n := by
    have := List.take_append_drop n (l.take k)
    rw [List.take_take, Nat.min_eq_left h] at this
    exact this.symm
  rw [e, used_app]; omega
theorem used_lt {n k : Nat} {s : Slot} (hs : l[n]? = some s) (hk : s.kind ≠ 0) (h : n < k) : used (l.take n) < used (l.take k) := by
  have h1 := used_take_succ l n s hs
  rw [if_neg hk] at h1
  have h2 := used_mono (l := l) (n := n + 1) (k := k) h
  omega
theorem used_max {n : Nat} : used (l.take n) ≤ used l := by
  have := used_mono (l := l) (n := n) (k := max n l.length) (by omega)
  rwa [List.take_of_length_le (l := l) (i := max n l.length) (by omega)] at this
theorem ren_low {e : Int} (h : e ≤ 0) : ren l e = e := by unfold ren; rw [if_pos h]
theorem ren_nat {n : Nat} (h : 1 ≤ n) : ren l (n : Nat) = ((used (l.take n) + 1 : Nat) : Int) := by unfold ren; rw [if_neg (by omega), Int.toNat_natCast]
def ValidE (l : List Slot) (e : Int) : Prop := e ≤ 0 ∨ ∃ n s, e = (n : Nat) ∧ 1 ≤ n ∧ l[n]? = some s ∧ s.kind ≠ 0
theorem valid_kind {e c : Int} (hk : kindOf l e = c) (hc : 0 < c) : ∃ (n : Nat) (s : Slot), e = n ∧ 1 ≤ n ∧ l[n]? = some s ∧ s.kind = c := by
  obtain ⟨k, rfl, k1, k2, k3⟩ := kindOf_ge hk (by omega)
  have hx := List.getElem?_eq_getElem k2
  rw [kindN_at hx] at k3
  exact ⟨k, _, rfl, k1, hx, k3⟩
theorem valid_of {e c : Int} (hk : kindOf l e = c) (hc : 0 < c) : ValidE l e := by
  obtain ⟨n, s, e1, e2, e3, e4⟩ := valid_kind hk hc
  exact .inr ⟨n, s, e1, e2, e3, by omega⟩
theorem valid_ok {e : Int} (h : entryOk l e = true) : ValidE l e := by
  rcases ok_cases h with h | ⟨_, h⟩
  · exact .inl h
  · exact valid_of h (by omega)
end
section
variable {m : Img}
theorem valid_root (S : Sound m) {r : List Int} (hr : r ∈ rootsOf m) {e : Int} (he : e ∈ r) : ValidE m.slots e := by
  obtain ⟨q, hq, rfl⟩ := mem_root_at he
  rcases root_cases S.wired hr q with h0 | h2
  · exact .inl (by omega)
  · exact valid_of h2 (by omega)
theorem valid_table (S : Sound m) {s : Slot} (hs : s ∈ m.slots) {e : Int} (he : e ∈ s.table) : ValidE m.slots e := valid_ok (List.all_eq_true.1 (List.all_eq_true.1 S.tables s hs) e he)
theorem slot_first (S : Sound m) : m.slots.head? = some freeSlot := by
  have h0 := kind0_is S.slots
  have hl := (slotsErr_len S.slots).1
  have hx := List.getElem?_eq_getElem (show 0 < m.slots.length by omega)
  rw [kindN_at hx] at h0
  have hf := List.all_eq_true.1 (slots_all S.slots) _ (List.getElem_mem (show 0 < m.slots.length by omega))
  rw [List.head?_eq_getElem?, hx, free_is hf h0]
theorem used_lt_len (S : Sound m) : used m.slots + 1 ≤ m.slots.length := by
  have h := slot_first S
  cases hs : m.slots with
  | nil => rw [hs] at h; cases h
  | cons a l =>
    rw [hs] at h
    injection h with h
    subst h
    have := used_le l
    simp only [used, List.length_cons, freeSlot]
    simp; omega
theorem refs_lenP (h : checkErr m = 0) : m.refs.length = m.slots.length := (sh_is (check_is h).1).1.refs
theorem slot_one (S : Sound m) {n : Nat} {s : Slot} (hs : m.slots[n]? = some s) (hk : s.kind ≠ 0) : 1 ≤ n := by
  rcases Nat.eq_zero_or_pos n with h | h
  · subst h
    have := kind0_is S.slots
    rw [kindN_at hs] at this
    exact absurd this hk
  · exact h
end
end Go.Proofs.YtfilnnjanhjbeaaGreat
