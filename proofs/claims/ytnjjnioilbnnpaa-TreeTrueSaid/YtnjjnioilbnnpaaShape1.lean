/- tree.Shape's closure; facts for its walk. Conditions: the image is read below the heap's size, its box lies at Bm. -/
import Derived.Test.YtnjjnioilbnnpaaRootsIt
import Derived.Test.YtnjjnioilbnnpaaFind2
namespace Go.Proofs.Ytnjjnioilbnnpaa
open Go.RowKit Go.Shelf Sl

set_option maxRecDepth 100000 in
theorem shapefn_any (v : IV) (m : Img) (Bm : Nat) (x : Int) (w : World) (h : ImgR w w.heap.size v m) (hb : Box w Bm m.guest v) :
    Calls Try.prog 44 #[.int .i64 x, .pointer (some ⟨Bm, 0, none⟩)] w fun e w' => e = .returned (.bool (!entryOk m.slots x)) ∧ Below w.heap.size w w' := by
  obtain ⟨rA, rn, rc, sA, sn, sc, fA, fn, fc, pA, pn, pc⟩ := v
  obtain ⟨b0, b1, b2, b3, b4⟩ := hb
  dsimp only at b0 b1 b2 b3 b4
  have HK := Lib.hid (kind_any ⟨rA, rn, rc, sA, sn, sc, fA, fn, fc, pA, pn, pc⟩ m x w h)
  clear h
  by_cases hx : 0 < x
  · have he := Lib.hid (entryOk_hi (l := m.slots) hx)
    go_enter Try.func44, Try.ntmps44
    go_wp2_with fail
    refine HK.out.mono ?_
    rintro e w' ⟨rfl, hb⟩
    go_wp2_with fail
    go_ret
    exact ⟨ret_bool (by rw [he.out]; rfl), hb⟩
  · have he := Lib.hid (entryOk_lo (l := m.slots) (e := x) (by omega))
    have hx' : x ≤ 0 := by omega
    clear hx
    go_enter Try.func44, Try.ntmps44
    go_wp2_with fail
    go_ret
    exact ⟨ret_bool (by rw [he.out]; rfl), Below.refl _ _⟩

theorem guestOk_is {g : Int} (h : guestOk g = true) : 0 ≤ g ∧ g ≤ 16 := by
  unfold guestOk at h; rw [Bool.and_eq_true, decide_eq_true_eq, decide_eq_true_eq] at h; exact h
theorem keeps_of_below {W W' : World} (h : Below W.heap.size W W') : KeepsOthers W W' := ⟨h.size, fun k _ hk _ => (h.block k (lt_of_block hk)).trans hk⟩
/-- All meet p; one does not. -/
def AllX {α : Type} (p : α → Bool) (l : List α) : Prop := ∀ x ∈ l, p x = true
def BadX {α : Type} (p : α → Bool) (l : List α) : Prop := ∃ x ∈ l, p x = false
theorem AllX.nil {α : Type} {p : α → Bool} : AllX p [] := fun _ h => by cases h
theorem AllX.snoc {α : Type} {p : α → Bool} {l : List α} {x : α} (h : AllX p l) (hx : p x = true) : AllX p (l ++ [x]) := fun y hy => by
  rcases List.mem_append.1 hy with hy | hy
  · exact h y hy
  · rw [List.mem_singleton.1 hy]; exact hx
theorem BadX.snoc {α : Type} {p : α → Bool} {l : List α} {x : α} (hx : p x = false) : BadX p (l ++ [x]) := ⟨x, List.mem_append_right _ (List.mem_singleton_self _), hx⟩
/-- The name ahead of snapshot k. -/
def lastName (l : List Snap) (k : Nat) : ByteArray := if k = 0 then { data := #[] } else (snapAt l (k - 1)).name
theorem lastName_succ {l : List Snap} {k : Nat} {s : Snap} (h : l[k]? = some s) : lastName l (k + 1) = s.name := by
  unfold lastName; rw [if_neg (by omega), Nat.add_sub_cancel, snapAt_at h]
theorem isName_some {s : ByteArray} (h : isName s = true) : strLt { data := #[] } s = true := by
  unfold isName at h
  simp only [Bool.and_eq_true, decide_eq_true_eq] at h
  have h1 : s.toList.length = s.size := by rw [ByteArray.toList_eq]; rfl
  have hl : 1 ≤ s.toList.length := by omega
  unfold strLt
  have e : ({ data := #[] } : ByteArray).toList = [] := by rw [ByteArray.toList_eq]
  rw [e]
  match hs : s.toList with
  | [] => rw [hs] at hl; simp at hl
  | a :: t => rfl
theorem nameAt_last {l : List Snap} {k : Nat} {s : Snap} (h : l[k]? = some s) : nameAt l k = (isName s.name && strLt (lastName l k) s.name) := by
  unfold nameAt lastName
  rw [snapAt_at h]
  by_cases hk : k = 0
  · subst hk
    rw [if_pos rfl]
    cases hn : isName s.name
    · rfl
    · rw [isName_some hn]; rfl
  · rw [if_neg hk, show (k == 0) = false from by simpa using hk, Bool.false_or]
/-- All guests that are handed out are in their bounds: so are the image's. -/
theorem guests_of {w : World} {Q : Int → List Int → Prop} {m : Img} {x0 : {x : RV // GoodR w Q x}} {rs : List {x : RV // GoodR w Q x}} (h0 : x0.1.g = m.guest) (hm : rs.map (fun x => (x.1.g, x.1.root)) = m.snaps.map (fun s => (s.guest, s.root)))
    (ha : ∀ x ∈ x0 :: rs, guestOk x.1.g = true) : guestsOk m = true := by
  unfold guestsOk
  rw [Bool.and_eq_true, List.all_eq_true]
  refine ⟨by rw [← h0]; exact ha _ (List.mem_cons_self ..), fun s hs => ?_⟩
  have : (s.guest, s.root) ∈ m.snaps.map (fun s => (s.guest, s.root)) := List.mem_map.2 ⟨s, hs, rfl⟩
  rw [← hm] at this
  obtain ⟨x, hx, he⟩ := List.mem_map.1 this
  injection he with he1 he2
  rw [← he1]; exact ha x (List.mem_cons_of_mem _ hx)
theorem guests_bad {w : World} {Q : Int → List Int → Prop} {m : Img} {x0 : {x : RV // GoodR w Q x}} {rs : List {x : RV // GoodR w Q x}} (h0 : x0.1.g = m.guest) (hm : rs.map (fun x => (x.1.g, x.1.root)) = m.snaps.map (fun s => (s.guest, s.root)))
    {x : {x : RV // GoodR w Q x}} (hx : x ∈ x0 :: rs) (ha : guestOk x.1.g = false) : guestsOk m = false := by
  unfold guestsOk
  rw [Bool.and_eq_false_iff]
  rcases List.mem_cons.1 hx with rfl | hx
  · left; rw [← h0]; exact ha
  · right
    have : (x.1.g, x.1.root) ∈ rs.map (fun x => (x.1.g, x.1.root)) := List.mem_map.2 ⟨x, hx, rfl⟩
    rw [hm] at this
    obtain ⟨s, hs, he⟩ := List.mem_map.1 this
    injection he with he1 he2
    rw [List.all_eq_false]
    exact ⟨s, hs, by rw [he1, ha]; decide⟩
theorem roots_of {w : World} {Q : Int → List Int → Prop} {m : Img} {x0 : {x : RV // GoodR w Q x}} {rs : List {x : RV // GoodR w Q x}} (h0 : x0.1.g = m.guest) (h0' : x0.1.root = m.root) (hm : rs.map (fun x => (x.1.g, x.1.root)) = m.snaps.map (fun s => (s.guest, s.root)))
    (ha : ∀ x ∈ x0 :: rs, rootFine m.slots x.1.g x.1.root = true) : rootsOk m = true := by
  unfold rootsOk
  rw [Bool.and_eq_true, List.all_eq_true]
  refine ⟨by rw [← h0, ← h0']; exact ha _ (List.mem_cons_self ..), fun s hs => ?_⟩
  have : (s.guest, s.root) ∈ m.snaps.map (fun s => (s.guest, s.root)) := List.mem_map.2 ⟨s, hs, rfl⟩
  rw [← hm] at this
  obtain ⟨x, hx, he⟩ := List.mem_map.1 this
  injection he with he1 he2
  rw [← he1, ← he2]; exact ha x (List.mem_cons_of_mem _ hx)
theorem roots_bad {w : World} {Q : Int → List Int → Prop} {m : Img} {x0 : {x : RV // GoodR w Q x}} {rs : List {x : RV // GoodR w Q x}} (h0 : x0.1.g = m.guest) (h0' : x0.1.root = m.root) (hm : rs.map (fun x => (x.1.g, x.1.root)) = m.snaps.map (fun s => (s.guest, s.root)))
    {x : {x : RV // GoodR w Q x}} (hx : x ∈ x0 :: rs) (ha : rootFine m.slots x.1.g x.1.root = false) : rootsOk m = false := by
  unfold rootsOk
  rw [Bool.and_eq_false_iff]
  rcases List.mem_cons.1 hx with rfl | hx
  · left; rw [← h0, ← h0']; exact ha
  · right
    have : (x.1.g, x.1.root) ∈ rs.map (fun x => (x.1.g, x.1.root)) := List.mem_map.2 ⟨x, hx, rfl⟩
    rw [hm] at this
    obtain ⟨s, hs, he⟩ := List.mem_map.1 this
    injection he with he1 he2
    rw [List.all_eq_false]
    exact ⟨s, hs, by rw [he1, he2, ha]; decide⟩
end Go.Proofs.Ytnjjnioilbnnpaa
