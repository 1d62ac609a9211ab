/- What the laws of writing ask of the pages. No conditions. -/
import Derived.Test.YtpboapeoejdipaaWBegun
namespace Go.Proofs.Ytpboapeoejdipaa
open Sl
theorem allM_is {m : Img} (h : checkErr m = 0) : allM m = (List.range m.guest.toNat).map (pageAt m m.root) := by unfold allM; rw [if_pos h]; rfl
theorem allM_facts {m : Img} (h : checkErr m = 0) : pagesErr (allM m) = 0 ∧ ((allM m).length : Int) = m.guest := by
  obtain ⟨g0, g1, _⟩ := own_facts h
  refine ⟨?_, ?_⟩
  · unfold allM; rw [if_pos h]; exact allV_right h _ (by omega)
  · rw [allM_is h, List.length_map, List.length_range]; omega
theorem flat_ok {m : Img} (h : checkErr m = 0) {k : Nat} (hk : (k : Int) < m.guest) {p : ByteArray} (hp : p.size = 4) : flatWriteE (allM m) (k : Nat) p = 0 ∧ flatWriteV (allM m) (k : Nat) p = (allM m).set k p := by
  obtain ⟨f1, f2⟩ := allM_facts h
  have e1 : flatReadE (allM m) (k : Nat) = 0 := by unfold flatReadE; rw [if_pos f1, if_pos (by omega)]
  have e2 : flatWriteE (allM m) (k : Nat) p = 0 := by unfold flatWriteE; rw [if_pos e1, if_pos hp]
  exact ⟨e2, by unfold flatWriteV; rw [if_pos e2, Int.toNat_natCast]⟩
theorem wok_all {m y : Img} {k : Nat} {pg : ByteArray} (h : checkErr m = 0) (o : WOk m y k pg) : allM y = (allM m).set k pg := by
  rw [allM_is h, allM_is o.right, o.guest]
  apply List.ext_getElem?
  intro i
  rw [List.getElem?_map, List.getElem?_set, List.getElem?_map, List.length_map, List.length_range]
  by_cases hi : i < m.guest.toNat
  · rw [List.getElem?_range hi]
    by_cases hk : k = i
    · subst hk; rw [if_pos rfl, if_pos hi]; simp [o.new]
    · rw [if_neg hk]; simp [o.else_ i (fun e => hk e.symm)]
  · rw [List.getElem?_eq_none (by simp; omega)]
    by_cases hk : k = i
    · subst hk; rw [if_pos rfl, if_neg hi]; rfl
    · rw [if_neg hk]; rfl
theorem fa_true {m : Img} {n : Int} {pg : ByteArray} (h : writeE m n pg = 0) : checkErr (writeI m n pg) = 0 ∧ flatWriteE (allM m) n pg = 0 ∧ allM (writeI m n pg) = flatWriteV (allM m) n pg := by
  obtain ⟨k, x, rfl, hk, hp, hm, _, e, o, _, _, _⟩ := writes_ok h
  obtain ⟨q1, q2⟩ := flat_ok hm hk hp
  rw [e]
  exact ⟨o.right, q1, by rw [q2]; exact wok_all hm o⟩
theorem fs_true {m : Img} {n e : Int} (hf : fine e = true) (h0 : e ≤ 0) (h : setE m n e = 0) : checkErr (setI m n e) = 0 ∧ flatWriteE (allM m) n zeroP = 0 ∧ allM (setI m n e) = flatWriteV (allM m) n zeroP := by
  obtain ⟨k, x, rfl, hk, hm, _, e', o, _, _⟩ := sets_ok hf h0 h
  obtain ⟨q1, q2⟩ := flat_ok hm hk (p := zeroP) rfl
  rw [e']
  exact ⟨o.right, q1, by rw [q2]; exact wok_all hm o⟩
theorem fr_true {m : Img} {g : Int} (h : resizeE m g = 0) : checkErr (resizeI m g) = 0 ∧ flatResizeE (allM m) g = 0 ∧ allM (resizeI m g) = flatResizeV (allM m) g := by
  obtain ⟨k, x, rfl, h16, hm, _, e, o, _⟩ := resizes_ok h
  obtain ⟨f1, f2⟩ := allM_facts hm
  have q1 : flatResizeE (allM m) (k : Nat) = 0 := by unfold flatResizeE; rw [if_pos f1, if_pos (by omega)]
  rw [e]
  refine ⟨o.right, q1, ?_⟩
  unfold flatResizeV
  rw [if_pos q1, Int.toNat_natCast, allM_is o.right, o.guest, Int.toNat_natCast]
  apply List.ext_getElem?
  intro i
  have hl : (allM m).length = m.guest.toNat := by omega
  rw [List.getElem?_map]
  by_cases hi : i < k
  · rw [List.getElem?_range hi, Option.map_some, o.pages i hi]
    by_cases hg : i < m.guest.toNat
    · rw [List.getElem?_append_left (by rw [List.length_take]; omega), List.getElem?_take_of_lt hi, allM_is hm, List.getElem?_map, List.getElem?_range hg]; rfl
    · rw [List.getElem?_append_right (by rw [List.length_take]; omega), List.getElem?_replicate, if_pos (by rw [List.length_take]; omega)]
      unfold pageAt
      rw [entry_behind hm (by omega)]; rfl
  · rw [List.getElem?_eq_none (by simp; omega), List.getElem?_eq_none (by rw [List.length_append, List.length_take, List.length_replicate]; omega)]; rfl
theorem past_same {m y : Img} (hm : checkErr m = 0) (hy : checkErr y = 0) (hs : y.snaps = m.snaps) (hp : ∀ s ∈ m.snaps, ∀ i, pageAt y s.root i = pageAt m s.root i) (name : ByteArray) : pastE y name = pastE m name ∧ pastV y name = pastV m name := by
  have e1 : pastE y name = pastE m name := by unfold pastE; rw [if_pos hm, if_pos hy, hs]
  refine ⟨e1, ?_⟩
  unfold pastV
  rw [e1, hs]
  split
  · rename_i he
    have hn : m.snaps.any (named name) = true := by
      unfold pastE at he
      rw [if_pos hm] at he
      by_cases hh : m.snaps.any (named name) = true
      · exact hh
      · rw [if_neg hh] at he; cases he
    obtain ⟨k, s, hk, hsx, hf, _⟩ := past_ok hm hn
    rw [hf, snapAt_at hsx]
    exact List.map_congr_left fun i _ => hp s (List.mem_of_getElem? hsx) i
  · rfl
theorem past_check {m : Img} {name : ByteArray} (h : pastE m name = 0) : checkErr m = 0 := by
  unfold pastE at h
  split at h
  · assumption
  · exact h
theorem fa_past {m : Img} {n : Int} {pg name : ByteArray} (hp : pastE m name = 0) (h : writeE m n pg = 0) : pastE (writeI m n pg) name = 0 ∧ pastV (writeI m n pg) name = pastV m name := by
  obtain ⟨k, x, rfl, hk, _, hm, _, e, o, _, _, _⟩ := writes_ok h
  rw [e]
  obtain ⟨q1, q2⟩ := past_same hm o.right o.snaps o.past name
  exact ⟨q1.trans hp, q2⟩
theorem fs_past {m : Img} {n e : Int} {name : ByteArray} (hf : fine e = true) (h0 : e ≤ 0) (hp : pastE m name = 0) (h : setE m n e = 0) : pastE (setI m n e) name = 0 ∧ pastV (setI m n e) name = pastV m name := by
  obtain ⟨k, x, rfl, hk, hm, _, e', o, _, _⟩ := sets_ok hf h0 h
  rw [e']
  obtain ⟨q1, q2⟩ := past_same hm o.right o.snaps o.past name
  exact ⟨q1.trans hp, q2⟩
theorem fr_past {m : Img} {g : Int} {name : ByteArray} (hp : pastE m name = 0) (h : resizeE m g = 0) : pastE (resizeI m g) name = 0 ∧ pastV (resizeI m g) name = pastV m name := by
  obtain ⟨k, x, rfl, h16, hm, _, e, o, _⟩ := resizes_ok h
  rw [e]
  obtain ⟨q1, q2⟩ := past_same hm o.right o.snaps o.past name
  exact ⟨q1.trans hp, q2⟩
end Go.Proofs.Ytpboapeoejdipaa
