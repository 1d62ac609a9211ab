/- The plain model of the wire: images as bytes. No conditions. -/
import Derived.Test.YtbhhcjnjddcocaaPureX
import Derived.Test.YtbhhcjnjddcocaaPureS
namespace Go.Proofs.Ytbhhcjnjddcocaa
open Sl
def byteOf (n : Int) : UInt8 := UInt8.ofNat (n % 256).toNat
def bytesL (l : List Int) : List UInt8 := l.map byteOf
/-- An entry that a byte tells. -/
def entB (b : UInt8) : Int := if b = 255 then -1 else (b.toNat : Int)
theorem byteOf_u8 (b : UInt8) : byteOf (b.toNat : Int) = b := by
  unfold byteOf
  have := b.toNat_lt
  rw [show ((b.toNat : Int) % 256).toNat = b.toNat by omega]
  exact UInt8.ofNat_toNat
theorem byteOf_entB (b : UInt8) : byteOf (entB b) = b := by
  unfold entB
  split
  · rename_i h; subst h; decide
  · exact byteOf_u8 b
theorem byteOf_nat {n : Nat} (h : n < 256) : (byteOf (n : Int)).toNat = n := by
  unfold byteOf
  rw [show ((n : Int) % 256).toNat = n by omega, UInt8.toNat_ofNat']
  omega
theorem byteOf_int {n : Int} (h0 : 0 ≤ n) (h : n < 256) : ((byteOf n).toNat : Int) = n := by
  obtain ⟨k, rfl⟩ := Int.eq_ofNat_of_zero_le h0
  rw [byteOf_nat (by omega)]
theorem entB_byteOf {e : Int} (h1 : -1 ≤ e) (h2 : e < 255) : entB (byteOf e) = e := by
  unfold entB
  by_cases h : e = -1
  · subst h; decide
  · have hn : byteOf e ≠ 255 := fun hh => by
      have := byteOf_int (n := e) (by omega) (by omega)
      rw [hh] at this
      have h3 : ((255 : UInt8).toNat : Int) = 255 := by decide
      omega
    rw [if_neg hn]; exact byteOf_int (by omega) (by omega)
theorem ents_bytes {l : List Int} (h : ∀ e ∈ l, -1 ≤ e ∧ e < 255) : (bytesL l).map entB = l := by
  unfold bytesL
  rw [List.map_map]
  conv => rhs; rw [← List.map_id l]
  exact List.map_congr_left fun e he => entB_byteOf (h e he).1 (h e he).2
theorem bytes_ents (l : List UInt8) : bytesL (l.map entB) = l := by
  unfold bytesL
  rw [List.map_map]
  conv => rhs; rw [← List.map_id l]
  exact List.map_congr_left fun e _ => byteOf_entB e
theorem bytesL_len (l : List Int) : (bytesL l).length = l.length := by simp [bytesL]
def slotB (s : Slot) : List UInt8 := byteOf s.kind :: (toL s.data ++ bytesL s.table)
def snapB (x : Snap) : List UInt8 := byteOf x.name.size :: (toL x.name ++ byteOf x.guest :: bytesL x.root)
/-- The bytes of an image. -/
def imgB (m : Img) : List UInt8 := byteOf m.guest :: byteOf m.slots.length :: (m.slots.flatMap slotB ++ byteOf m.snaps.length :: (m.snaps.flatMap snapB ++ bytesL m.root))
abbrev Rdr (α : Type) := List UInt8 → Option (α × List UInt8)
def pNum : Rdr Nat
  | [] => none
  | b :: r => some (b.toNat, r)
def pText (n : Nat) : Rdr (List UInt8) := fun l => if n ≤ l.length then some (l.take n, l.drop n) else none
def pList (n : Nat) : Rdr (List Int) := fun l => if n ≤ l.length then some ((l.take n).map entB, l.drop n) else none
def pSlot : Rdr Slot
  | [] => none
  | b :: r =>
    if b.toNat = 1 then (if 4 ≤ r.length then some (⟨1, ofL (r.take 4), []⟩, r.drop 4) else none)
    else if b.toNat = 2 then (if 4 ≤ r.length then some (⟨2, ByteArray.empty, (r.take 4).map entB⟩, r.drop 4) else none)
    else some (⟨(b.toNat : Int), ByteArray.empty, []⟩, r)
def nWants (g : Nat) : Nat := (g + 3) / 4
def pSnap : Rdr Snap
  | [] => none
  | b :: r =>
    if b.toNat ≤ r.length then
      match r.drop b.toNat with
      | [] => none
      | g :: r' => if nWants g.toNat ≤ r'.length then some (⟨ofL (r.take b.toNat), (g.toNat : Int), (r'.take (nWants g.toNat)).map entB⟩, r'.drop (nWants g.toNat)) else none
    else none
/-- So many, one behind another. -/
def iter {α : Type} (p : Rdr α) : Nat → Rdr (List α)
  | 0, l => some ([], l)
  | n + 1, l => match iter p n l with
    | none => none
    | some (xs, r) => match p r with
      | none => none
      | some (x, r') => some (xs ++ [x], r')
section
variable {α : Type} {p q : Rdr α} {B : α → List UInt8}
theorem iter_none {n k : Nat} {l : List UInt8} (h : iter p n l = none) (hk : n ≤ k) : iter p k l = none := by
  induction k with
  | zero => rw [show n = 0 by omega] at h; exact h
  | succ k ih =>
    by_cases hn : n = k + 1
    · subst hn; exact h
    · have := ih (by omega); simp only [iter, this]
theorem iter_some {n k : Nat} {l : List UInt8} {x : List α × List UInt8} (h : iter p k l = some x) (hk : n ≤ k) : ∃ y, iter p n l = some y := by
  cases hh : iter p n l with
  | none => rw [iter_none hh hk] at h; exact absurd h (by simp)
  | some y => exact ⟨y, rfl⟩
theorem iter_len {n : Nat} {l : List UInt8} {xs : List α} {r : List UInt8} (h : iter p n l = some (xs, r)) : xs.length = n := by
  induction n generalizing xs r with
  | zero => simp only [iter, Option.some.injEq, Prod.mk.injEq] at h; rw [← h.1]; rfl
  | succ n ih =>
    simp only [iter] at h
    split at h
    · simp at h
    · rename_i ys r1 h1
      split at h
      · simp at h
      · simp only [Option.some.injEq, Prod.mk.injEq] at h
        rw [← h.1, List.length_append, ih h1]; rfl
/-- What is read are the bytes of what was read, and the rest. -/
theorem iter_bytes (hp : ∀ l x r, p l = some (x, r) → l = B x ++ r) {n : Nat} {l : List UInt8} {xs : List α} {r : List UInt8} (h : iter p n l = some (xs, r)) : l = xs.flatMap B ++ r := by
  induction n generalizing xs r with
  | zero => simp only [iter, Option.some.injEq, Prod.mk.injEq] at h; rw [← h.1, ← h.2]; rfl
  | succ n ih =>
    simp only [iter] at h
    split at h
    · simp at h
    · rename_i ys r1 h1
      split at h
      · simp at h
      · rename_i y r2 h2
        simp only [Option.some.injEq, Prod.mk.injEq] at h
        rw [← h.1, ← h.2, List.flatMap_append, List.append_assoc]
        rw [ih h1, hp _ _ _ h2]; simp
theorem iter_same (h : ∀ l y, p l = some y → q l = some y) {n : Nat} {l : List UInt8} {y : List α × List UInt8} (hi : iter p n l = some y) : iter q n l = some y := by
  induction n generalizing y with
  | zero => exact hi
  | succ n ih =>
    simp only [iter] at hi ⊢
    split at hi
    · simp at hi
    · rename_i ys r1 h1
      rw [ih h1]
      split at hi
      · simp at hi
      · rename_i y r2 h2
        simp only [h _ _ h2]; exact hi
/-- The bytes of some are read as these. -/
theorem iter_back {xs : List α} (hp : ∀ x ∈ xs, ∀ r, p (B x ++ r) = some (x, r)) (r : List UInt8) (k : Nat) (hk : k ≤ xs.length) : iter p k (xs.flatMap B ++ r) = some (xs.take k, (xs.drop k).flatMap B ++ r) := by
  induction k with
  | zero => rfl
  | succ k ih =>
    have hl : k < xs.length := by omega
    simp only [iter, ih (by omega)]
    rw [List.drop_eq_getElem_cons hl, List.flatMap_cons, List.append_assoc, hp _ (List.getElem_mem hl)]
    simp only
    rw [List.take_add_one, List.getElem?_eq_getElem hl]; rfl
end
theorem pSlot_bytes (l : List UInt8) (x : Slot) (r : List UInt8) (h : pSlot l = some (x, r)) : l = slotB x ++ r := by
  cases l with
  | nil => simp [pSlot] at h
  | cons b l =>
    simp only [pSlot] at h
    split at h
    · rename_i h1
      split at h
      · simp only [Option.some.injEq, Prod.mk.injEq] at h
        have hb : byteOf 1 = b := by rw [← byteOf_u8 b, h1]; rfl
        rw [← h.1, ← h.2]
        simp [slotB, toL_ofL, bytesL, hb]
      · simp at h
    · split at h
      · rename_i h1
        split at h
        · simp only [Option.some.injEq, Prod.mk.injEq] at h
          have hb : byteOf 2 = b := by rw [← byteOf_u8 b, h1]; rfl
          rw [← h.1, ← h.2]
          rw [slotB, bytes_ents, hb, show toL ByteArray.empty = [] from rfl]
          simp
        · simp at h
      · simp only [Option.some.injEq, Prod.mk.injEq] at h
        rw [← h.1, ← h.2]
        simp [slotB, byteOf_u8, toL, bytesL]
theorem pSnap_bytes (l : List UInt8) (x : Snap) (r : List UInt8) (h : pSnap l = some (x, r)) : l = snapB x ++ r := by
  cases l with
  | nil => simp [pSnap] at h
  | cons b l =>
    simp only [pSnap] at h
    split at h
    · rename_i h1
      split at h
      · simp at h
      · rename_i g r' h2
        split at h
        · rename_i h3
          simp only [Option.some.injEq, Prod.mk.injEq] at h
          have hs : (ofL (l.take b.toNat)).size = b.toNat := by rw [← toL_len, toL_ofL, List.length_take]; omega
          rw [← h.1, ← h.2]
          simp only [snapB, hs, byteOf_u8, toL_ofL, bytes_ents]
          have h4 : l = l.take b.toNat ++ g :: r' := by rw [← h2, List.take_append_drop]
          have h5 : r' = r'.take (nWants g.toNat) ++ r'.drop (nWants g.toNat) := (List.take_append_drop _ _).symm
          simp only [List.cons_append, List.append_assoc, List.cons.injEq, true_and]
          rw [← h5]; exact h4
        · simp at h
    · simp at h
/-- What is read, its counts left open, and the rest. -/
def parse (l : List UInt8) : Option (Img × List UInt8) :=
  match l with
  | [] => none
  | [_] => none
  | g :: n :: l2 => match iter pSlot n.toNat l2 with
    | none => none
    | some (_, []) => none
    | some (ss, k :: l3) => match iter pSnap k.toNat l3 with
      | none => none
      | some (ps, l4) => if nWants g.toNat ≤ l4.length then some (⟨(g.toNat : Int), (l4.take (nWants g.toNat)).map entB, ss, List.replicate ss.length 0, ps⟩, l4.drop (nWants g.toNat)) else none
def withCounts (m : Img) : Img := { m with refs := countsOf m }
/-- What Read answers, of a text that is not too long. -/
def readW (l : List UInt8) : Option Img := match parse l with
  | none => none
  | some (m, r) => if shapeErr m = 0 ∧ r = [] ∧ checkErr (withCounts m) = 0 then some (withCounts m) else none
theorem parse_bytes {l : List UInt8} {m : Img} {r : List UInt8} (h : parse l = some (m, r)) : l = imgB m ++ r ∧ m.refs = List.replicate m.slots.length 0 := by
  unfold parse at h
  split at h
  · simp at h
  · simp at h
  · rename_i g n l2
    split at h
    · simp at h
    · simp at h
    · rename_i ss k l3 h1
      split at h
      · simp at h
      · rename_i ps l4 h2
        split at h
        · simp only [Option.some.injEq, Prod.mk.injEq] at h
          rw [← h.1, ← h.2]
          refine ⟨?_, rfl⟩
          have e1 := iter_bytes pSlot_bytes h1
          have e2 := iter_bytes pSnap_bytes h2
          have e3 : l4 = l4.take (nWants g.toNat) ++ l4.drop (nWants g.toNat) := (List.take_append_drop _ _).symm
          simp only [imgB, iter_len h1, iter_len h2, byteOf_u8, bytes_ents]
          simp only [List.cons_append, List.append_assoc, List.cons.injEq, true_and]
          rw [← e3, ← e2]; exact e1
        · simp at h
/-! What may lack is 0. -/
def nNum (l : List UInt8) : Nat × List UInt8 := match l with
  | [] => (0, [])
  | b :: r => (b.toNat, r)
def entI (n : Int) : Int := if n = 255 then -1 else n
def nEnt : Rdr Int := fun l => some (entI (nNum l).1, (nNum l).2)
def nList (n : Nat) (l : List UInt8) : List Int × List UInt8 := (iter nEnt n l).getD ([], [])
def nSlot : Rdr Slot := fun l =>
  if (nNum l).1 = 1 then some (⟨1, ofL ((nNum l).2.take 4), []⟩, (nNum l).2.drop 4)
  else if (nNum l).1 = 2 then some (⟨2, ByteArray.empty, (nList 4 (nNum l).2).1⟩, (nList 4 (nNum l).2).2)
  else some (⟨((nNum l).1 : Int), ByteArray.empty, []⟩, (nNum l).2)
/-- A snapshot: the rest behind the name, and behind the guest. -/
def nName (l : List UInt8) : List UInt8 := (nNum l).2.drop (nNum l).1
def nSnap : Rdr Snap := fun l => some (⟨ofL ((nNum l).2.take (nNum l).1), ((nNum (nName l)).1 : Int), (nList (nWants (nNum (nName l)).1) (nNum (nName l)).2).1⟩, (nList (nWants (nNum (nName l)).1) (nNum (nName l)).2).2)
theorem iter_all {α : Type} {p : Rdr α} (h : ∀ l, ∃ y, p l = some y) (n : Nat) (l : List UInt8) : ∃ y, iter p n l = some y := by
  induction n with
  | zero => exact ⟨_, rfl⟩
  | succ n ih =>
    obtain ⟨⟨xs, r⟩, e⟩ := ih
    obtain ⟨⟨x, r'⟩, e'⟩ := h r
    exact ⟨(xs ++ [x], r'), by simp only [iter, e, e']⟩
theorem nSlot_all (l : List UInt8) : ∃ y, nSlot l = some y := by
  unfold nSlot
  split
  · exact ⟨_, rfl⟩
  · split <;> exact ⟨_, rfl⟩
def nSlots (n : Nat) (l : List UInt8) : List Slot × List UInt8 := (iter nSlot n l).getD ([], [])
def nSnaps (n : Nat) (l : List UInt8) : List Snap × List UInt8 := (iter nSnap n l).getD ([], [])
theorem nSlots_is (n : Nat) (l : List UInt8) : iter nSlot n l = some (nSlots n l) := by
  obtain ⟨y, e⟩ := iter_all nSlot_all n l
  unfold nSlots; rw [e]; rfl
theorem nSnaps_is (n : Nat) (l : List UInt8) : iter nSnap n l = some (nSnaps n l) := by
  obtain ⟨y, e⟩ := iter_all (p := nSnap) (fun l => ⟨_, rfl⟩) n l
  unfold nSnaps; rw [e]; rfl
theorem nList_is (n : Nat) (l : List UInt8) : iter nEnt n l = some (nList n l) := by
  obtain ⟨y, e⟩ := iter_all (p := nEnt) (fun l => ⟨_, rfl⟩) n l
  unfold nList; rw [e]; rfl
theorem nList_succ (n : Nat) (l : List UInt8) : nList (n + 1) l = ((nList n l).1 ++ [entI (nNum (nList n l).2).1], (nNum (nList n l).2).2) := by
  have h := nList_is (n + 1) l
  simp only [iter, nList_is n l, nEnt, Option.some.injEq] at h
  exact h.symm
theorem nSlots_succ {n : Nat} {l : List UInt8} {x : Slot} {r : List UInt8} (h : nSlot (nSlots n l).2 = some (x, r)) : nSlots (n + 1) l = ((nSlots n l).1 ++ [x], r) := by
  have e := nSlots_is (n + 1) l
  simp only [iter, nSlots_is n l, h, Option.some.injEq] at e
  exact e.symm
theorem nSnaps_succ {n : Nat} {l : List UInt8} {x : Snap} {r : List UInt8} (h : nSnap (nSnaps n l).2 = some (x, r)) : nSnaps (n + 1) l = ((nSnaps n l).1 ++ [x], r) := by
  have e := nSnaps_is (n + 1) l
  simp only [iter, nSnaps_is n l, h, Option.some.injEq] at e
  exact e.symm
theorem nList_zero (l : List UInt8) : nList 0 l = ([], l) := rfl
theorem nSlots_zero (l : List UInt8) : nSlots 0 l = ([], l) := rfl
theorem nSnaps_zero (l : List UInt8) : nSnaps 0 l = ([], l) := rfl
theorem nList_len (n : Nat) (l : List UInt8) : (nList n l).1.length = n := iter_len (nList_is n l)
theorem nSlots_len (n : Nat) (l : List UInt8) : (nSlots n l).1.length = n := iter_len (nSlots_is n l)
theorem nSnaps_len (n : Nat) (l : List UInt8) : (nSnaps n l).1.length = n := iter_len (nSnaps_is n l)
theorem entI_u8 (b : UInt8) : entI (b.toNat : Int) = entB b := by
  unfold entI entB
  by_cases h : b = 255
  · subst h; rfl
  · rw [if_neg h, if_neg]
    intro e
    exact h (UInt8.toNat_inj.1 (by have : (255 : UInt8).toNat = 255 := by decide
                                   omega))
theorem nList_of {n : Nat} {l : List UInt8} (h : n ≤ l.length) : nList n l = ((l.take n).map entB, l.drop n) := by
  induction n with
  | zero => rfl
  | succ n ih =>
    have hl : n < l.length := by omega
    rw [nList_succ, ih (by omega)]
    simp only [List.drop_eq_getElem_cons hl, nNum, entI_u8]
    rw [List.take_add_one, List.getElem?_eq_getElem hl, List.map_append]; rfl
theorem nSlot_of (l : List UInt8) (y : Slot × List UInt8) (h : pSlot l = some y) : nSlot l = some y := by
  cases l with
  | nil => simp [pSlot] at h
  | cons b l =>
    simp only [pSlot] at h
    change (if b.toNat = 1 then _ else if b.toNat = 2 then _ else _) = _
    simp only [nNum]
    split at h
    · rename_i h1
      rw [if_pos h1]
      split at h
      · exact h
      · simp at h
    · rename_i h1
      rw [if_neg h1]
      split at h
      · rename_i h2
        rw [if_pos h2]
        split at h
        · rename_i h3
          rw [nList_of h3]; exact h
        · simp at h
      · rename_i h2
        rw [if_neg h2]; exact h
theorem nSnap_of (l : List UInt8) (y : Snap × List UInt8) (h : pSnap l = some y) : nSnap l = some y := by
  cases l with
  | nil => simp [pSnap] at h
  | cons b l =>
    simp only [pSnap] at h
    split at h
    · split at h
      · simp at h
      · rename_i g r' h2
        split at h
        · rename_i h3
          unfold nSnap nName
          simp only [nNum, h2]
          rw [nList_of h3]; exact h
        · simp at h
    · simp at h
/-- What the reference reads, its counts left open. -/
def nParse (l : List UInt8) : Img :=
  let g := nNum l
  let n := nNum g.2
  let ss := nSlots n.1 n.2
  let k := nNum ss.2
  let ps := nSnaps k.1 k.2
  ⟨(g.1 : Int), (nList (nWants g.1) ps.2).1, ss.1, List.replicate ss.1.length 0, ps.1⟩
theorem nParse_of {l : List UInt8} {m : Img} {r : List UInt8} (h : parse l = some (m, r)) : nParse l = m := by
  unfold parse at h
  split at h
  · simp at h
  · simp at h
  · rename_i g n l2
    split at h
    · simp at h
    · simp at h
    · rename_i ss k l3 h1
      split at h
      · simp at h
      · rename_i ps l4 h2
        split at h
        · rename_i h3
          simp only [Option.some.injEq, Prod.mk.injEq] at h
          have e1 : nSlots n.toNat l2 = (ss, k :: l3) := by unfold nSlots; rw [iter_same nSlot_of h1]; rfl
          have e2 : nSnaps k.toNat l3 = (ps, l4) := by unfold nSnaps; rw [iter_same nSnap_of h2]; rfl
          rw [← h.1]
          simp only [nParse, nNum, e1, e2, nList_of h3]
        · simp at h
/-- What the reference answers. -/
def fromW (l : List UInt8) : Option Img :=
  if shapeErr (nParse l) = 0 ∧ checkErr (withCounts (nParse l)) = 0 ∧ imgB (withCounts (nParse l)) = l then some (withCounts (nParse l)) else none
theorem imgB_counts (m : Img) : imgB (withCounts m) = imgB m := rfl
section
variable {m : Img}
theorem sl_of {s : Slot} (h : slotFine s = true) (r : List UInt8) : pSlot (slotB s ++ r) = some (s, r) := by
  obtain ⟨kind, data, table⟩ := s
  have empty {d : ByteArray} (hd : d.size = 0) : d = ByteArray.empty := toL_eq (by
    have : (toL d).length = 0 := by rw [toL_len]; exact hd
    rw [List.eq_nil_of_length_eq_zero this]; rfl)
  unfold slotFine at h
  dsimp only at h
  split at h
  · rename_i h0
    simp only [Bool.and_eq_true, beq_iff_eq] at h
    have ht := List.eq_nil_of_length_eq_zero h.2
    have hd := empty h.1
    subst h0 ht hd
    rfl
  · split at h
    · rename_i h0 h1
      simp only [Bool.and_eq_true, beq_iff_eq] at h
      have ht := List.eq_nil_of_length_eq_zero h.2
      subst h1 ht
      have h4 : (toL data).length = 4 := by rw [toL_len]; exact h.1
      have hb : (byteOf 1).toNat = 1 := by decide
      simp only [slotB, pSlot, bytesL, List.map_nil, List.append_nil, List.cons_append, hb, if_true]
      rw [if_pos (by rw [List.length_append]; omega), List.take_append_of_le_length (by omega), List.drop_append_of_le_length (by omega), List.take_of_length_le (by omega), List.drop_of_length_le (by omega), ofL_toL]; rfl
    · split at h
      · rename_i h0 h1 h2
        simp only [Bool.and_eq_true, beq_iff_eq] at h
        have hd := empty h.1.1
        subst h2 hd
        have he := h.1.2
        unfold entriesErr at he
        split at he
        · rename_i h4
          split at he
          · rename_i hall
            have hf : ∀ e ∈ table, -1 ≤ e ∧ e < 255 := fun e hm => by
              have := List.all_eq_true.1 hall e hm
              unfold fine at this
              simp only [Bool.and_eq_true, decide_eq_true_eq] at this; omega
            have hl : (bytesL table).length = 4 := by rw [bytesL_len]; exact h4
            have hb : (byteOf 2).toNat = 2 := by decide
            simp only [slotB, pSlot, List.cons_append, hb]
            rw [if_neg (by decide), if_pos trivial, show toL ByteArray.empty = [] from rfl, List.nil_append]
            rw [if_pos (by rw [List.length_append]; omega), List.take_append_of_le_length (by omega), List.drop_append_of_le_length (by omega), List.take_of_length_le (by omega), List.drop_of_length_le (by omega), ents_bytes hf]; rfl
          · simp at he
        · simp at he
      · simp at h
theorem nWants_int {g : Int} (h : 0 ≤ g) : (nWants g.toNat : Int) = wants g := by unfold nWants wants; omega
theorem root_bytes {m : Img} (h : Sound m) {g : Int} {r : List Int} (hr : rootFine m.slots g r = true) (hg : guestOk g = true) (hm : r ∈ rootsOf m) :
    nWants (byteOf g).toNat = (bytesL r).length ∧ (bytesL r).map entB = r ∧ ((byteOf g).toNat : Int) = g := by
  have h40 := (slotsErr_len h.slots).2
  unfold guestOk at hg
  simp only [Bool.and_eq_true, decide_eq_true_eq] at hg
  have hgg := byteOf_int (n := g) hg.1 (by omega)
  unfold rootFine at hr
  simp only [Bool.and_eq_true, decide_eq_true_eq] at hr
  refine ⟨?_, ents_bytes fun e he => ?_, hgg⟩
  · rw [bytesL_len]
    have := hr.1
    unfold wants at this
    unfold nWants; omega
  · obtain ⟨q, hq, rfl⟩ : ∃ q, q < r.length ∧ int r q = e := by
      obtain ⟨q, hq, rfl⟩ := List.mem_iff_getElem.1 he
      exact ⟨q, hq, by unfold int; rw [List.getD_eq_getElem?_getD, List.getElem?_eq_getElem hq]; rfl⟩
    rcases root_cases h.wired hm q with h0 | h2
    · omega
    · obtain ⟨k, e, k1, k2, _⟩ := kindOf_ge h2 (by omega)
      omega
theorem sn_of {x : Snap} (h : Sound m) (hx : x ∈ m.snaps) (r : List UInt8) : pSnap (snapB x ++ r) = some (x, r) := by
  have hg : guestOk x.guest = true := by
    have := h.guests; unfold guestsOk at this; simp only [Bool.and_eq_true] at this
    exact List.all_eq_true.1 this.2 x hx
  have hr : rootFine m.slots x.guest x.root = true := by
    have := h.roots; unfold rootsOk at this; simp only [Bool.and_eq_true] at this
    exact List.all_eq_true.1 this.2 x hx
  obtain ⟨e1, e2, e3⟩ := root_bytes h hr hg (List.mem_cons_of_mem _ (List.mem_map_of_mem hx))
  have hn : x.name.size ≤ 8 := by
    obtain ⟨k, hk, rfl⟩ := List.mem_iff_getElem.1 hx
    have := upto_iff.1 h.names k hk
    unfold nameAt isName at this
    rw [snapAt_at (List.getElem?_eq_getElem hk)] at this
    simp only [Bool.and_eq_true, decide_eq_true_eq] at this
    exact this.1.1.2
  have hb : (byteOf (x.name.size : Int)).toNat = x.name.size := byteOf_nat (by omega)
  have hl := toL_len x.name
  simp only [snapB, pSnap, List.cons_append, hb, List.append_assoc]
  rw [if_pos (by rw [List.length_append]; omega)]
  rw [List.drop_append_of_le_length (by omega), List.drop_of_length_le (by omega), List.take_append_of_le_length (by omega), List.take_of_length_le (by omega), List.nil_append]
  simp only
  rw [if_pos (by rw [List.length_append]; omega)]
  rw [e1, List.drop_append_of_le_length (by omega), List.drop_of_length_le (by omega), List.take_append_of_le_length (by omega), List.take_of_length_le (by omega), e2, e3, ofL_toL]; rfl
/-- The bytes of a right image are read as this image. -/
theorem parse_back (h : Sound m) : parse (imgB m) = some ({ m with refs := List.replicate m.slots.length 0 }, []) := by
  have h40 := slotsErr_len h.slots
  have h3 := (sizesOk_is h.sizes).2.2
  have hg : guestOk m.guest = true := by have := h.guests; unfold guestsOk at this; simp only [Bool.and_eq_true] at this; exact this.1
  have hr : rootFine m.slots m.guest m.root = true := by have := h.roots; unfold rootsOk at this; simp only [Bool.and_eq_true] at this; exact this.1
  obtain ⟨e1, e2, e3⟩ := root_bytes h hr hg (List.mem_cons_self ..)
  have hb1 : (byteOf (m.slots.length : Int)).toNat = m.slots.length := byteOf_nat (by omega)
  have hb2 : (byteOf (m.snaps.length : Int)).toNat = m.snaps.length := byteOf_nat (by omega)
  have i1 := iter_back (p := pSlot) (B := slotB) (xs := m.slots) (fun x hx r => sl_of (List.all_eq_true.1 (slots_all h.slots) x hx) r) (byteOf m.snaps.length :: (m.snaps.flatMap snapB ++ bytesL m.root)) m.slots.length (Nat.le_refl _)
  have i2 := iter_back (p := pSnap) (B := snapB) (xs := m.snaps) (fun x hx r => sn_of h hx r) (bytesL m.root) m.snaps.length (Nat.le_refl _)
  simp only [List.take_length, List.drop_length, List.flatMap_nil, List.nil_append] at i1 i2
  simp only [imgB, parse, hb1, i1, hb2, i2]
  rw [if_pos (by omega)]
  simp only [e1, List.take_length, List.drop_length, e2, e3]
theorem counts_eq (h : checkErr m = 0) : m.refs = countsOf m := by
  have hs := check_is h
  have hl := (sh_is hs.1).1.refs
  apply List.ext_getElem?
  intro k
  by_cases hk : k < m.slots.length
  · have a := List.getElem?_eq_getElem (show k < m.refs.length by omega)
    have b := List.getElem?_eq_getElem (show k < (countsOf m).length by rw [countsOf_len]; omega)
    have c := List.getElem?_eq_getElem hk
    rw [a, b, (ref_is h a b c).1]
  · rw [List.getElem?_eq_none (by omega), List.getElem?_eq_none (by rw [countsOf_len]; omega)]
theorem with_counts (h : checkErr m = 0) : withCounts { m with refs := List.replicate m.slots.length 0 } = m := by
  have := counts_eq h
  obtain ⟨g, rt, ss, rf, ps⟩ := m
  dsimp only at this ⊢
  unfold withCounts
  dsimp only
  rw [this]; rfl
/-- WHAT IS WRITTEN IS READ AS IT WAS. -/
theorem read_back (h : checkErr m = 0) : readW (imgB m) = some m := by
  have S := sound_of (check_is h).1
  unfold readW
  rw [parse_back S]
  dsimp only
  rw [with_counts h, if_pos ⟨S.zeros, rfl, h⟩]
theorem read_is {l : List UInt8} (h : readW l = some m) : checkErr m = 0 ∧ imgB m = l := by
  unfold readW at h
  split at h
  · simp at h
  · rename_i x r hp
    split at h
    · rename_i hc
      simp only [Option.some.injEq] at h
      obtain ⟨h1, h2, h3⟩ := hc
      subst h h2
      refine ⟨h3, ?_⟩
      have := (parse_bytes hp).1
      rw [List.append_nil] at this
      exact this.symm
    · simp at h
/-- Read answers what the reference answers. -/
theorem read_from (l : List UInt8) : readW l = fromW l := by
  cases hf : fromW l with
  | some m =>
    unfold fromW at hf
    split at hf
    · rename_i hc
      simp only [Option.some.injEq] at hf
      rw [hf] at hc
      rw [← hc.2.2]
      exact read_back hc.2.1
    · simp at hf
  | none =>
    cases hr : readW l with
    | none => rfl
    | some m =>
      exfalso
      have hi := read_is hr
      unfold readW at hr
      split at hr
      · simp at hr
      · rename_i x r hp
        split at hr
        · rename_i hc
          simp only [Option.some.injEq] at hr
          have hn := nParse_of hp
          unfold fromW at hf
          rw [hn, hr, if_pos ⟨hc.1, hi.1, hi.2⟩] at hf
          simp at hf
        · simp at hr
end
theorem nNum_lt (l : List UInt8) : (nNum l).1 < 256 := by
  cases l with
  | nil => exact Nat.zero_lt_succ _
  | cons b r => exact b.toNat_lt
theorem nSlot_other {r r2 : List UInt8} {k : Nat} {K : Int} (hu : nNum r = (k, r2)) (hK : (k : Int) = K) (h1 : (K == 1) = false) (h2 : (K == 2) = false) : nSlot r = some (⟨K, ByteArray.empty, []⟩, r2) := by
  have h1' : ¬ k = 1 := fun e => by subst e; rw [← hK] at h1; cases h1
  have h2' : ¬ k = 2 := fun e => by subst e; rw [← hK] at h2; cases h2
  unfold nSlot
  rw [hu]
  dsimp only
  rw [if_neg h1', if_neg h2', hK]
theorem nWants_nat (g : Nat) : wants (g : Int) = (nWants g : Nat) := by unfold wants nWants; omega
theorem nSnap_is {r r1 r3 : List UInt8} {b gx : Nat} (hu : nNum r = (b, r1)) (hu2 : nNum (r1.drop b) = (gx, r3)) : nSnap r = some (⟨ofL (r1.take b), (gx : Int), (nList (nWants gx) r3).1⟩, (nList (nWants gx) r3).2) := by
  unfold nSnap nName
  rw [hu]
  dsimp only
  rw [hu2]
theorem nParse_is {l l2 l3 r : List UInt8} {g : Nat × List UInt8} {j k : Nat} {ss : List Slot} (hg : nNum l = g) (hn : nNum g.2 = (j, l2)) (hs : nSlots j l2 = (ss, r)) (hk : nNum r = (k, l3)) :
    nParse l = ⟨(g.1 : Int), (nList (nWants g.1) (nSnaps k l3).2).1, ss, List.replicate ss.length 0, (nSnaps k l3).1⟩ := by
  unfold nParse
  rw [hg]
  dsimp only
  rw [hn]
  dsimp only
  rw [hs]
  dsimp only
  rw [hk]
theorem nSlot_one {r r2 : List UInt8} {k : Nat} {K : Int} (hu : nNum r = (k, r2)) (hK : (k : Int) = K) (h1 : (K == 1) = true) : nSlot r = some (⟨1, ofL (r2.take 4), []⟩, r2.drop 4) := by
  have h1' : k = 1 := by have : K = 1 := by simpa using h1
                         omega
  unfold nSlot
  rw [hu]
  dsimp only
  rw [if_pos h1']
theorem nSlot_two {r r2 : List UInt8} {k : Nat} {K : Int} (hu : nNum r = (k, r2)) (hK : (k : Int) = K) (h2 : (K == 2) = true) : nSlot r = some (⟨2, ByteArray.empty, (nList 4 r2).1⟩, (nList 4 r2).2) := by
  have h2' : k = 2 := by have : K = 2 := by simpa using h2
                         omega
  unfold nSlot
  rw [hu]
  dsimp only
  rw [if_neg (by omega), if_pos h2']
theorem flatMap_le {α : Type} {f : α → List UInt8} {c : Nat} {l : List α} (h : ∀ x ∈ l, (f x).length ≤ c) : (l.flatMap f).length ≤ l.length * c := by
  induction l with
  | nil => simp
  | cons a l ih =>
    have h1 := h a (List.mem_cons_self ..)
    have h2 := ih fun x hx => h x (List.mem_cons_of_mem _ hx)
    rw [List.flatMap_cons, List.length_append, List.length_cons, Nat.add_mul]
    omega
theorem slotFine_data {s : Slot} (h : slotFine s = true) : s.data.size ≤ 4 := by
  unfold slotFine at h
  split at h
  · simp only [Bool.and_eq_true, beq_iff_eq] at h; omega
  · split at h
    · simp only [Bool.and_eq_true, beq_iff_eq] at h; omega
    · split at h
      · simp only [Bool.and_eq_true, beq_iff_eq] at h; omega
      · simp at h
theorem name_small {m : Img} (S : Sound m) {k : Nat} {x : Snap} (hk : m.snaps[k]? = some x) : x.name.size ≤ 8 := by
  have := upto_iff.1 S.names k (List.getElem?_eq_some_iff.1 hk).1
  unfold nameAt isName at this
  rw [snapAt_at hk] at this
  simp only [Bool.and_eq_true, decide_eq_true_eq] at this
  exact this.1.1.2
/-- The bytes of a right image are few. -/
theorem imgB_small {m : Img} (h : checkErr m = 0) : (imgB m).length ≤ 1000 := by
  have S := sound_of (check_is h).1
  have hc := S.cbd
  have h1 := flatMap_le (f := slotB) (c := 9) (l := m.slots) fun x hx => by
    have := slotFine_data (List.all_eq_true.1 (slots_all S.slots) x hx)
    have := hc.tables x hx
    simp only [slotB, List.length_cons, List.length_append, toL_len, bytesL_len]; omega
  have h2 := flatMap_le (f := snapB) (c := 14) (l := m.snaps) fun x hx => by
    have hn : x.name.size ≤ 8 := by
      obtain ⟨k, hk, rfl⟩ := List.mem_iff_getElem.1 hx
      have := upto_iff.1 S.names k hk
      unfold nameAt isName at this
      rw [snapAt_at (List.getElem?_eq_getElem hk)] at this
      simp only [Bool.and_eq_true, decide_eq_true_eq] at this
      exact this.1.1.2
    have := hc.roots x hx
    simp only [snapB, List.length_cons, List.length_append, toL_len, bytesL_len]; omega
  have h3 := hc.slots
  have h4 := hc.snaps
  have h5 := hc.root
  simp only [imgB, List.length_cons, List.length_append, bytesL_len]
  omega
section
variable {g n k : UInt8} {l2 l3 l4 : List UInt8} {ss : List Slot} {ps : List Snap}
theorem readW_slots (h : iter pSlot n.toNat l2 = none) : readW (g :: n :: l2) = none := by simp only [readW, parse, h]
theorem readW_mid (h : iter pSlot n.toNat l2 = some (ss, [])) : readW (g :: n :: l2) = none := by simp only [readW, parse, h]
theorem readW_snaps (h : iter pSlot n.toNat l2 = some (ss, k :: l3)) (h2 : iter pSnap k.toNat l3 = none) : readW (g :: n :: l2) = none := by simp only [readW, parse, h, h2]
theorem readW_root (h : iter pSlot n.toNat l2 = some (ss, k :: l3)) (h2 : iter pSnap k.toNat l3 = some (ps, l4)) (h3 : ¬ nWants g.toNat ≤ l4.length) : readW (g :: n :: l2) = none := by
  simp only [readW, parse, h, h2, if_neg h3]
theorem readW_at (h : iter pSlot n.toNat l2 = some (ss, k :: l3)) (h2 : iter pSnap k.toNat l3 = some (ps, l4)) (h3 : nWants g.toNat ≤ l4.length) {m : Img}
    (hm : m = ⟨(g.toNat : Int), (l4.take (nWants g.toNat)).map entB, ss, List.replicate ss.length 0, ps⟩) :
    readW (g :: n :: l2) = if shapeErr m = 0 ∧ l4.drop (nWants g.toNat) = [] ∧ checkErr (withCounts m) = 0 then some (withCounts m) else none := by
  subst hm
  simp only [readW, parse, h, h2, if_pos h3]
theorem iter_step {α : Type} {p : Rdr α} {j : Nat} {l r r' : List UInt8} {xs : List α} {x : α} (h : iter p j l = some (xs, r)) (hx : p r = some (x, r')) : iter p (j + 1) l = some (xs ++ [x], r') := by
  simp only [iter, h, hx]
theorem iter_stop {α : Type} {p : Rdr α} {j n : Nat} {l r : List UInt8} {xs : List α} (h : iter p j l = some (xs, r)) (hx : p r = none) (hn : j < n) : iter p n l = none :=
  iter_none (n := j + 1) (by simp only [iter, h, hx]) hn
theorem pSlot_data {l : List UInt8} {x : Slot} {r : List UInt8} (h : pSlot l = some (x, r)) : x.data.size ≤ 4 := by
  cases l with
  | nil => simp [pSlot] at h
  | cons b l =>
    simp only [pSlot] at h
    split at h
    · split at h
      · simp only [Option.some.injEq, Prod.mk.injEq] at h
        rw [← h.1]
        show (ofL (l.take 4)).size ≤ 4
        rw [← toL_len, toL_ofL, List.length_take]; omega
      · simp at h
    · split at h
      · split at h
        · simp only [Option.some.injEq, Prod.mk.injEq] at h
          rw [← h.1]; exact Nat.zero_le _
        · simp at h
      · simp only [Option.some.injEq, Prod.mk.injEq] at h
        rw [← h.1]; exact Nat.zero_le _
theorem pSlot_tab {l : List UInt8} {x : Slot} {r : List UInt8} (h : pSlot l = some (x, r)) : x.table.length ≤ 4 := by
  cases l with
  | nil => simp [pSlot] at h
  | cons b l =>
    simp only [pSlot] at h
    split at h
    · split at h
      · simp only [Option.some.injEq, Prod.mk.injEq] at h
        rw [← h.1]; exact Nat.zero_le _
      · simp at h
    · split at h
      · split at h
        · simp only [Option.some.injEq, Prod.mk.injEq] at h
          rw [← h.1]
          show ((l.take 4).map entB).length ≤ 4
          rw [List.length_map, List.length_take]; omega
        · simp at h
      · simp only [Option.some.injEq, Prod.mk.injEq] at h
        rw [← h.1]; exact Nat.zero_le _
theorem pSnap_none0 : pSnap [] = none := rfl
theorem pSnap_none1 {b : UInt8} {r : List UInt8} (h : ¬ b.toNat ≤ r.length) : pSnap (b :: r) = none := by simp only [pSnap]; rw [if_neg h]
theorem pSnap_none2 {b : UInt8} {r : List UInt8} (h : b.toNat ≤ r.length) (h2 : r.drop b.toNat = []) : pSnap (b :: r) = none := by simp only [pSnap]; rw [if_pos h, h2]
theorem pSnap_none3 {b g : UInt8} {r r' : List UInt8} (h : b.toNat ≤ r.length) (h2 : r.drop b.toNat = g :: r') (h3 : ¬ nWants g.toNat ≤ r'.length) : pSnap (b :: r) = none := by simp only [pSnap]; rw [if_pos h, h2]; simp only; rw [if_neg h3]
theorem pSnap_some {b g : UInt8} {r r' : List UInt8} (h : b.toNat ≤ r.length) (h2 : r.drop b.toNat = g :: r') (h3 : nWants g.toNat ≤ r'.length) : pSnap (b :: r) = some (⟨ofL (r.take b.toNat), (g.toNat : Int), (r'.take (nWants g.toNat)).map entB⟩, r'.drop (nWants g.toNat)) := by
  simp only [pSnap]; rw [if_pos h, h2]; simp only; rw [if_pos h3]
end
end Go.Proofs.Ytbhhcjnjddcocaa
