/- The plain model of stacks. No conditions. -/
import Derived.Test.YtmdjoafbckphfaaPureO
import Derived.Test.YtmdjoafbckphfaaPureY
namespace Sl
structure Stk where
  base : List ByteArray
  top : Img
def checkS (s : Stk) : Int := if pagesErr s.base = 0 then checkErr s.top else pagesErr s.base
def errS (s : Stk) (n : Int) : Int := if checkS s = 0 then lookE s.top n else checkS s
def pageS (s : Stk) (k : Nat) : ByteArray := if entryOf s.top.slots s.top.root k = 0 ∧ k < s.base.length then s.base.getD k noP else pageV s.top.slots (entryOf s.top.slots s.top.root k)
def readS (s : Stk) (n : Int) : ByteArray := if errS s n = 0 then pageS s n.toNat else noP
def noStk : Stk := ⟨[], ⟨0, [], [], [], []⟩⟩
/-- An image of so many pages, and no table. -/
def freshI (g : Int) : Img := ⟨g, List.replicate (wants g).toNat 0, [freeSlot], [0], []⟩
def commitE (s : Stk) : Int := if checkS s = 0 then (if s.top.snaps.length = 0 then 0 else 8) else checkS s
def commitV (s : Stk) : Stk := if commitE s = 0 then ⟨(List.range s.top.guest.toNat).map (pageS s), freshI s.top.guest⟩ else noStk
end Sl
namespace Go.Proofs.Ytmdjoafbckphfaa
open Sl
def writeSE (s : Stk) (n : Int) (p : ByteArray) : Int := if checkS s = 0 then writeE s.top n p else checkS s
def writeSV (s : Stk) (n : Int) (p : ByteArray) : Stk := if writeSE s n p = 0 then ⟨s.base, writeI s.top n p⟩ else noStk
theorem checkS_is {s : Stk} (h : checkS s = 0) : pagesErr s.base = 0 ∧ checkErr s.top = 0 := by
  unfold checkS at h
  split at h
  · exact ⟨by assumption, h⟩
  · contradiction
theorem checkS_ok {s : Stk} (h : pagesErr s.base = 0) (h2 : checkErr s.top = 0) : checkS s = 0 := by unfold checkS; rw [if_pos h, h2]
theorem errS_is {s : Stk} {n : Int} (h : errS s n = 0) : checkS s = 0 ∧ lookE s.top n = 0 := by
  unfold errS at h
  split at h
  · exact ⟨by assumption, h⟩
  · contradiction
theorem look_alike {m y : Img} (h : checkErr m = 0) (h2 : checkErr y = 0) (hg : y.guest = m.guest) (n : Int) : lookE y n = lookE m n := by
  unfold lookE
  have h' : ¬ (checkErr m ≠ 0) := fun hh => hh h
  have h2' : ¬ (checkErr y ≠ 0) := fun hh => hh h2
  rw [if_neg h', if_neg h2', hg]
theorem stk_write {s : Stk} {n k : Int} {p : ByteArray} (h : writeSE s n p = 0) : (writeSV s n p).base = s.base ∧ errS (writeSV s n p) n = 0 ∧ readS (writeSV s n p) n = p ∧ errS (writeSV s n p) k = errS s k ∧ (k ≠ n → readS (writeSV s n p) k = readS s k) := by
  have hV : writeSV s n p = ⟨s.base, writeI s.top n p⟩ := by unfold writeSV; rw [if_pos h]
  rw [hV]
  unfold writeSE at h
  split at h
  · rename_i hc
    obtain ⟨b0, m0⟩ := checkS_is hc
    obtain ⟨n', x, rfl, hn, hp, _, hx, e1, o, ⟨j, d, a1, a2, a3, a4, a5, a6, a7, a8⟩, S, _⟩ := writes_ok h
    rw [e1]
    have hn4 := page_at m0 hn
    obtain ⟨r1, r2, r3⟩ := write_at m0 hn4 hn hp hx
    have hW := write_eff m0 hn4 hn hp hx
    have hrl := hW.1.1.rlen
    have cx : checkS ⟨s.base, settled x⟩ = 0 := checkS_ok b0 o.right
    have ee : ∀ i, errS ⟨s.base, settled x⟩ i = errS s i := fun i => by
      unfold errS
      rw [if_pos cx, if_pos hc]
      exact look_alike m0 o.right o.guest i
    have en : errS ⟨s.base, settled x⟩ (n' : Nat) = 0 := by
      unfold errS; rw [if_pos cx]
      exact look_same o.right (k := n') (by rw [o.guest]; exact hn)
    refine ⟨rfl, en, ?_, ee k, fun hk => ?_⟩
    · unfold readS
      rw [if_pos en, Int.toNat_natCast]
      unfold pageS
      have hd : entryOf (settled x).slots (settled x).root n' = (d : Nat) := ((settled_entry S (mem_root x) (by omega)).1).trans a5
      rw [if_neg (by show ¬ (entryOf (settled x).slots (settled x).root n' = 0 ∧ _); rw [hd]; omega)]
      exact o.new
    · unfold readS
      rw [ee k]
      split
      · rename_i hke
        have hl := (errS_is hke).2
        obtain ⟨_, k0, kg⟩ := look_is hl
        obtain ⟨k', rfl⟩ := Int.eq_ofNat_of_zero_le k0
        rw [Int.toNat_natCast]
        have hk4 := page_at m0 kg
        have e2 : entryOf (settled x).slots (settled x).root k' = entryOf s.top.slots s.top.root k' := ((settled_entry S (mem_root x) (by omega)).1).trans (r2 k' (by omega))
        unfold pageS
        show (if entryOf (settled x).slots (settled x).root k' = 0 ∧ _ then _ else pageV (settled x).slots (entryOf (settled x).slots (settled x).root k')) = _
        have e3 : pageV (settled x).slots (entryOf (settled x).slots (settled x).root k') = pageV s.top.slots (entryOf s.top.slots s.top.root k') := o.else_ k' (by omega)
        rw [e3, e2]
      · rfl
  · contradiction
theorem fresh_right {g : Int} (h0 : 0 ≤ g) (h16 : g ≤ 16) : checkErr (freshI g) = 0 := by
  obtain ⟨k, rfl⟩ := Int.eq_ofNat_of_zero_le h0
  have hk : k < 17 := by omega
  have := (show ∀ k, k < 17 → checkErr (freshI (k : Nat)) = 0 from by decide +kernel)
  exact this k hk
theorem fresh_entry (g : Int) (n : Nat) : entryOf (freshI g).slots (freshI g).root n = 0 := by
  have h : int (freshI g).root (n / 4) = 0 := by
    unfold int freshI
    rw [List.getD_eq_getElem?_getD, List.getElem?_replicate]
    split <;> rfl
  unfold entryOf
  rw [h]; rfl
theorem page_four {m : Img} (h : checkErr m = 0) {k : Nat} (hk : (k : Int) < m.guest) : isPage (pageV m.slots (entryOf m.slots m.root k)) = true := by
  have f := (allM_facts h).1
  have hm : pageV m.slots (entryOf m.slots m.root k) ∈ allM m := by
    rw [allM_is h]
    exact List.mem_map.2 ⟨k, List.mem_range.2 (by omega), rfl⟩
  exact List.all_eq_true.1 (pagesErr_len f).2 _ hm
theorem commit_is {s : Stk} (h : commitE s = 0) : checkS s = 0 ∧ s.top.snaps.length = 0 := by
  unfold commitE at h
  split at h
  · split at h
    · exact ⟨by assumption, by assumption⟩
    · omega
  · contradiction
theorem stk_commit {s : Stk} (h : commitE s = 0) : checkS (commitV s) = 0 ∧ (∀ k, errS (commitV s) k = errS s k) ∧ (∀ k, readS (commitV s) k = readS s k) ∧ commitE (commitV s) = 0 ∧ commitV (commitV s) = commitV s := by
  obtain ⟨hc, hs⟩ := commit_is h
  obtain ⟨b0, m0⟩ := checkS_is hc
  obtain ⟨g0, g16, _⟩ := own_facts m0
  obtain ⟨g, hg⟩ := Int.eq_ofNat_of_zero_le g0
  have hV : commitV s = ⟨(List.range g).map (pageS s), freshI (g : Nat)⟩ := by unfold commitV; rw [if_pos h, hg, Int.toNat_natCast]
  have p4 : ∀ k, k < g → isPage (pageS s k) = true := fun k hk => by
    unfold pageS
    split
    · rename_i hh
      have hx := List.getElem?_eq_getElem hh.2
      rw [List.getD_eq_getElem?_getD, hx]
      exact List.all_eq_true.1 (pagesErr_len b0).2 _ (List.getElem_mem _)
    · exact page_four m0 (by omega)
  have pe : pagesErr ((List.range g).map (pageS s)) = 0 := by
    unfold pagesErr
    rw [if_neg (by simp; omega), if_pos]
    rw [List.all_eq_true]
    intro x hx
    obtain ⟨k, hk, rfl⟩ := List.mem_map.1 hx
    exact p4 k (List.mem_range.1 hk)
  have fr := fresh_right (g := (g : Nat)) (by omega) (by omega)
  have cc : checkS (commitV s) = 0 := by rw [hV]; exact checkS_ok pe fr
  have ee : ∀ k, errS (commitV s) k = errS s k := fun k => by
    unfold errS
    rw [if_pos cc, if_pos hc, hV]
    exact look_alike m0 fr hg.symm k
  have pp : ∀ k, k < g → pageS (commitV s) k = pageS s k := fun k hk => by
    rw [hV]
    show (if entryOf (freshI (g : Nat)).slots (freshI (g : Nat)).root k = 0 ∧ k < ((List.range g).map (pageS s)).length then ((List.range g).map (pageS s)).getD k noP else _) = _
    rw [if_pos ⟨fresh_entry _ _, by simpa using hk⟩, List.getD_eq_getElem?_getD, List.getElem?_map, List.getElem?_range hk]; rfl
  have ce : commitE (commitV s) = 0 := by
    unfold commitE
    rw [if_pos cc, hV]; rfl
  refine ⟨cc, ee, fun k => ?_, ce, ?_⟩
  · unfold readS
    rw [ee k]
    split
    · rename_i hk
      obtain ⟨_, k0, kg⟩ := look_is (errS_is hk).2
      exact pp _ (by omega)
    · rfl
  · have hV2 : commitV (commitV s) = ⟨(List.range g).map (pageS (commitV s)), freshI (g : Nat)⟩ := by
      rw [show commitV (commitV s) = _ from by unfold commitV; rw [if_pos (by rw [show (if commitE s = 0 then (⟨(List.range s.top.guest.toNat).map (pageS s), freshI s.top.guest⟩ : Stk) else noStk) = commitV s from rfl]; exact ce)]]
      rw [show (if commitE s = 0 then (⟨(List.range s.top.guest.toNat).map (pageS s), freshI s.top.guest⟩ : Stk) else noStk) = commitV s from rfl]
      rw [show (commitV s).top.guest = (g : Nat) from by rw [hV]; rfl, Int.toNat_natCast]
    rw [hV2]
    conv => rhs; rw [hV]
    congr 1
    exact List.map_congr_left fun k hk => pp k (List.mem_range.1 hk)
theorem fresh_zero : checkErr (freshI 0) = 0 := fresh_right (by decide) (by decide)
theorem fresh_resize {g : Nat} (h : g ≤ 16) : resizeE (freshI 0) (g : Nat) = 0 ∧ resizeI (freshI 0) (g : Nat) = freshI (g : Nat) := by
  have hM : resizeM (freshI 0) g = some (freshI (g : Nat)) := by
    unfold resizeM
    rw [if_neg (fun hh => by have := hh.2; exact absurd this (Nat.not_lt_zero _))]
    show some _ = some _
    congr 1
    have hw : (wants (g : Nat)).toNat ≤ 16 := by unfold wants; omega
    have e : ([] ++ List.replicate 16 (0 : Int)).take (wants (g : Nat)).toNat = List.replicate (wants (g : Nat)).toNat 0 := by
      rw [List.nil_append, List.take_replicate, Nat.min_eq_left hw]
    show (⟨(g : Nat), ([] ++ List.replicate 16 (0 : Int)).take (wants (g : Nat)).toNat, [freeSlot], [0], []⟩ : Img) = _
    rw [e]; rfl
  have hr := fresh_right (g := (g : Nat)) (by omega) (by omega)
  unfold resizeE resizeI
  rw [if_pos fresh_zero, if_pos ⟨by omega, by omega⟩, if_pos ⟨fresh_zero, by omega, by omega⟩, Int.toNat_natCast, hM]
  exact ⟨rfl, settled_id hr⟩
theorem stk_bare {s : Stk} {n : Int} (h : errS s n = 0) : errS ⟨[], s.top⟩ n = 0 ∧ readS ⟨[], s.top⟩ n = readV s.top n ∧ lookE s.top n = 0 ∧ (lookN s.top n ≠ 0 → readS s n = readS ⟨[], s.top⟩ n) ∧ resizeE (freshI 0) s.base.length = 0 ∧ resizeI (freshI 0) s.base.length = freshI s.base.length ∧
    errS ⟨s.base, freshI s.base.length⟩ n = flatReadE s.base n ∧ readS ⟨s.base, freshI s.base.length⟩ n = flatReadV s.base n := by
  obtain ⟨hc, hl⟩ := errS_is h
  obtain ⟨b0, m0⟩ := checkS_is hc
  have c1 : checkS ⟨[], s.top⟩ = 0 := checkS_ok rfl m0
  have e1 : errS ⟨[], s.top⟩ n = 0 := by unfold errS; rw [if_pos c1]; exact hl
  have l16 := (pagesErr_len b0).1
  have fr := fresh_right (g := (s.base.length : Nat)) (by omega) (by omega)
  have c2 : checkS ⟨s.base, freshI s.base.length⟩ = 0 := checkS_ok b0 fr
  have r1 : readS ⟨[], s.top⟩ n = readV s.top n := by
    unfold readS readV
    rw [if_pos e1, if_pos hl]
    unfold pageS
    rw [if_neg (fun hh => absurd hh.2 (Nat.not_lt_zero _))]
  have e2 : errS ⟨s.base, freshI s.base.length⟩ n = flatReadE s.base n := by
    unfold errS flatReadE lookE
    rw [if_pos c2, if_neg (fun hh => hh fr), if_pos b0]
    rfl
  refine ⟨e1, r1, hl, fun hk => ?_, (fresh_resize l16).1, (fresh_resize l16).2, e2, ?_⟩
  · rw [r1]
    unfold readS readV
    rw [if_pos h, if_pos hl]
    unfold pageS
    unfold lookN at hk
    rw [if_pos hl] at hk
    rw [if_neg (fun hh => hk hh.1)]
  · unfold readS flatReadV
    rw [e2]
    split
    · rename_i hh
      have hlt : n.toNat < s.base.length := by
        unfold flatReadE at hh
        rw [if_pos b0] at hh
        split at hh
        · omega
        · omega
      unfold pageS
      rw [if_pos ⟨fresh_entry _ _, hlt⟩]
    · rfl
theorem errS_no {s : Stk} {n : Int} (h : checkS s ≠ 0) : errS s n = checkS s ∧ readS s n = noP := by
  have e : errS s n = checkS s := by unfold errS; rw [if_neg h]
  refine ⟨e, ?_⟩
  unfold readS
  rw [if_neg (by rw [e]; exact h)]
theorem errS_look {s : Stk} {n : Int} (h : checkS s = 0) (h2 : lookE s.top n ≠ 0) : errS s n = lookE s.top n ∧ readS s n = noP := by
  have e : errS s n = lookE s.top n := by unfold errS; rw [if_pos h]
  refine ⟨e, ?_⟩
  unfold readS
  rw [if_neg (by rw [e]; exact h2)]
theorem errS_ok {s : Stk} {n : Int} (h : checkS s = 0) (h2 : lookE s.top n = 0) : errS s n = 0 := by unfold errS; rw [if_pos h]; exact h2
theorem flat_at {s : Stk} {n : Int} (h : checkS s = 0) (h2 : lookE s.top n = 0) : (flatReadE s.base n = 0 ↔ n.toNat < s.base.length) := by
  have b0 := (checkS_is h).1
  have k0 := (look_is h2).2.1
  unfold flatReadE
  rw [if_pos b0]
  constructor
  · intro hh
    split at hh
    · omega
    · omega
  · intro hh
    rw [if_pos ⟨k0, by omega⟩]
theorem readS_base {s : Stk} {n : Int} (h : checkS s = 0) (h2 : lookE s.top n = 0) (h3 : lookN s.top n = 0) (h4 : flatReadE s.base n = 0) : readS s n = flatReadV s.base n := by
  unfold readS
  rw [if_pos (errS_ok h h2)]
  unfold pageS flatReadV
  unfold lookN at h3
  rw [if_pos h2] at h3
  rw [if_pos ⟨h3, (flat_at h h2).1 h4⟩, if_pos h4]
theorem readS_top {s : Stk} {n : Int} (h : checkS s = 0) (h2 : lookE s.top n = 0) (h3 : lookN s.top n ≠ 0 ∨ flatReadE s.base n ≠ 0) : readS s n = readV s.top n := by
  unfold readS readV
  rw [if_pos (errS_ok h h2), if_pos h2]
  unfold pageS
  rw [if_neg]
  rintro ⟨h5, h6⟩
  rcases h3 with h3 | h3
  · unfold lookN at h3; rw [if_pos h2] at h3; exact h3 h5
  · exact h3 ((flat_at h h2).2 h6)
end Go.Proofs.Ytmdjoafbckphfaa
