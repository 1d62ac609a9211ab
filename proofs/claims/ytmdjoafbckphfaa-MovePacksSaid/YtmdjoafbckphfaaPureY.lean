/- The texts PureY, PureZ in one. Conditions: as each says. -/
import Derived.Test.YtmdjoafbckphfaaWBegun
import Derived.Test.YtmdjoafbckphfaaPureO
-- PureY: What the laws of writing ask of the pages. No conditions.
namespace Go.Proofs.Ytmdjoafbckphfaa
open Sl
theorem allM_is {m : Img} (h : checkErr m = 0) : allM m = (List.range m.guest.toNat).map (pageAt m m.root) := by unfold allM; rw [if_pos h]; rfl
theorem allM_facts {m : Img} (h : checkErr m = 0) : pagesErr (allM m) = 0 ∧ ((allM m).length : Int) = m.guest := by
  obtain ⟨g0, g1, _⟩ := own_facts h
  refine ⟨?_, ?_⟩
  · unfold allM; rw [if_pos h]; exact allV_right h _ (by omega)
  · rw [allM_is h, List.length_map, List.length_range]; omega
theorem flat_ok {m : Img} (h : checkErr m = 0) {k : Nat} (hk : (k : Int) < m.guest) {p : ByteArray} (hp : p.size = 4) : flatWriteE (allM m) (k : Nat) p = 0 ∧ flatWriteV (allM m) (k : Nat) p = (allM m).set k p := by
  obtain ⟨f1, f2⟩ := allM_facts h
  have e1 : flatReadE (allM m) (k : Nat) = 0 := by unfold flatReadE; rw [if_pos f1, if_pos (by omega)]
  have e2 : flatWriteE (allM m) (k : Nat) p = 0 := by unfold flatWriteE; rw [if_pos e1, if_pos hp]
  exact ⟨e2, by unfold flatWriteV; rw [if_pos e2, Int.toNat_natCast]⟩
theorem wok_all {m y : Img} {k : Nat} {pg : ByteArray} (h : checkErr m = 0) (o : WOk m y k pg) : allM y = (allM m).set k pg := by
  rw [allM_is h, allM_is o.right, o.guest]
  apply List.ext_getElem?
  intro i
  rw [List.getElem?_map, List.getElem?_set, List.getElem?_map, List.length_map, List.length_range]
  by_cases hi : i < m.guest.toNat
  · rw [List.getElem?_range hi]
    by_cases hk : k = i
    · subst hk; rw [if_pos rfl, if_pos hi]; simp [o.new]
    · rw [if_neg hk]; simp [o.else_ i (fun e => hk e.symm)]
  · rw [List.getElem?_eq_none (by simp; omega)]
    by_cases hk : k = i
    · subst hk; rw [if_pos rfl, if_neg hi]; rfl
    · rw [if_neg hk]; rfl
theorem fa_true {m : Img} {n : Int} {pg : ByteArray} (h : writeE m n pg = 0) : checkErr (writeI m n pg) = 0 ∧ flatWriteE (allM m) n pg = 0 ∧ allM (writeI m n pg) = flatWriteV (allM m) n pg := by
  obtain ⟨k, x, rfl, hk, hp, hm, _, e, o, _, _, _⟩ := writes_ok h
  obtain ⟨q1, q2⟩ := flat_ok hm hk hp
  rw [e]
  exact ⟨o.right, q1, by rw [q2]; exact wok_all hm o⟩
theorem fs_true {m : Img} {n e : Int} (hf : fine e = true) (h0 : e ≤ 0) (h : setE m n e = 0) : checkErr (setI m n e) = 0 ∧ flatWriteE (allM m) n zeroP = 0 ∧ allM (setI m n e) = flatWriteV (allM m) n zeroP := by
  obtain ⟨k, x, rfl, hk, hm, _, e', o, _, _⟩ := sets_ok hf h0 h
  obtain ⟨q1, q2⟩ := flat_ok hm hk (p := zeroP) rfl
  rw [e']
  exact ⟨o.right, q1, by rw [q2]; exact wok_all hm o⟩
theorem fr_true {m : Img} {g : Int} (h : resizeE m g = 0) : checkErr (resizeI m g) = 0 ∧ flatResizeE (allM m) g = 0 ∧ allM (resizeI m g) = flatResizeV (allM m) g := by
  obtain ⟨k, x, rfl, h16, hm, _, e, o, _⟩ := resizes_ok h
  obtain ⟨f1, f2⟩ := allM_facts hm
  have q1 : flatResizeE (allM m) (k : Nat) = 0 := by unfold flatResizeE; rw [if_pos f1, if_pos (by omega)]
  rw [e]
  refine ⟨o.right, q1, ?_⟩
  unfold flatResizeV
  rw [if_pos q1, Int.toNat_natCast, allM_is o.right, o.guest, Int.toNat_natCast]
  apply List.ext_getElem?
  intro i
  have hl : (allM m).length = m.guest.toNat := by omega
  rw [List.getElem?_map]
  by_cases hi : i < k
  · rw [List.getElem?_range hi, Option.map_some, o.pages i hi]
    by_cases hg : i < m.guest.toNat
    · rw [List.getElem?_append_left (by rw [List.length_take]; omega), List.getElem?_take_of_lt hi, allM_is hm, List.getElem?_map, List.getElem?_range hg]; rfl
    · rw [List.getElem?_append_right (by rw [List.length_take]; omega), List.getElem?_replicate, if_pos (by rw [List.length_take]; omega)]
      unfold pageAt
      rw [entry_behind hm (by omega)]; rfl
  · rw [List.getElem?_eq_none (by simp; omega), List.getElem?_eq_none (by rw [List.length_append, List.length_take, List.length_replicate]; omega)]; rfl
theorem past_same {m y : Img} (hm : checkErr m = 0) (hy : checkErr y = 0) (hs : y.snaps = m.snaps) (hp : ∀ s ∈ m.snaps, ∀ i, pageAt y s.root i = pageAt m s.root i) (name : ByteArray) : pastE y name = pastE m name ∧ pastV y name = pastV m name := by
  have e1 : pastE y name = pastE m name := by unfold pastE; rw [if_pos hm, if_pos hy, hs]
  refine ⟨e1, ?_⟩
  unfold pastV
  rw [e1, hs]
  split
  · rename_i he
    have hn : m.snaps.any (named name) = true := by
      unfold pastE at he
      rw [if_pos hm] at he
      by_cases hh : m.snaps.any (named name) = true
      · exact hh
      · rw [if_neg hh] at he; cases he
    obtain ⟨k, s, hk, hsx, hf, _⟩ := past_ok hm hn
    rw [hf, snapAt_at hsx]
    exact List.map_congr_left fun i _ => hp s (List.mem_of_getElem? hsx) i
  · rfl
theorem past_check {m : Img} {name : ByteArray} (h : pastE m name = 0) : checkErr m = 0 := by
  unfold pastE at h
  split at h
  · assumption
  · exact h
theorem fa_past {m : Img} {n : Int} {pg name : ByteArray} (hp : pastE m name = 0) (h : writeE m n pg = 0) : pastE (writeI m n pg) name = 0 ∧ pastV (writeI m n pg) name = pastV m name := by
  obtain ⟨k, x, rfl, hk, _, hm, _, e, o, _, _, _⟩ := writes_ok h
  rw [e]
  obtain ⟨q1, q2⟩ := past_same hm o.right o.snaps o.past name
  exact ⟨q1.trans hp, q2⟩
theorem fs_past {m : Img} {n e : Int} {name : ByteArray} (hf : fine e = true) (h0 : e ≤ 0) (hp : pastE m name = 0) (h : setE m n e = 0) : pastE (setI m n e) name = 0 ∧ pastV (setI m n e) name = pastV m name := by
  obtain ⟨k, x, rfl, hk, hm, _, e', o, _, _⟩ := sets_ok hf h0 h
  rw [e']
  obtain ⟨q1, q2⟩ := past_same hm o.right o.snaps o.past name
  exact ⟨q1.trans hp, q2⟩
theorem fr_past {m : Img} {g : Int} {name : ByteArray} (hp : pastE m name = 0) (h : resizeE m g = 0) : pastE (resizeI m g) name = 0 ∧ pastV (resizeI m g) name = pastV m name := by
  obtain ⟨k, x, rfl, h16, hm, _, e, o, _⟩ := resizes_ok h
  rw [e]
  obtain ⟨q1, q2⟩ := past_same hm o.right o.snaps o.past name
  exact ⟨q1.trans hp, q2⟩
end Go.Proofs.Ytmdjoafbckphfaa
-- PureZ: Writing twice. No conditions.
namespace Go.Proofs.Ytmdjoafbckphfaa
open Sl
theorem look_no7 (m : Img) (n : Int) : lookE m n ≠ 7 := by
  unfold lookE checkErr shapeErr
  repeat' (first | omega | split)
theorem fa_full {m : Img} {n : Int} {pg : ByteArray} (h : writeE m n pg = 7) : slotsErr m.slots = 0 ∧ 38 ≤ usedN m.slots := by
  unfold writeE at h
  split at h
  · rename_i he
    split at h
    · have hm := (look_is he).1
      have S := sound_of (check_is hm).1
      refine ⟨S.slots, ?_⟩
      cases hw : writeM m n.toNat pg with
      | none =>
        have := write_none38 S hw
        unfold usedN; rw [if_pos S.slots]; omega
      | some x => rw [hw] at h; exact absurd h (by show ¬ (0 : Int) = 7; omega)
    · omega
  · exact absurd h (look_no7 m n)
theorem set_self {α : Type} {l : List α} {i : Nat} {a : α} (h : l[i]? = some a) : l.set i a = l := by
  apply List.ext_getElem?
  intro j
  rw [List.getElem?_set]
  split
  · rename_i e; subst e
    split
    · rw [h]
    · rename_i hl; rw [List.getElem?_eq_none (by omega)]
  · rfl
theorem look_same {m : Img} (h : checkErr m = 0) {k : Nat} (hk : (k : Int) < m.guest) : lookE m (k : Nat) = 0 := by
  unfold lookE; rw [if_neg (fun hh => hh h), if_pos ⟨by omega, hk⟩]
theorem set_twice {m : Img} {n e : Int} (hf : fine e = true) (h0 : e ≤ 0) (h : setE m n e = 0) : setE (setI m n e) n e = 0 ∧ setI (setI m n e) n e = setI m n e := by
  obtain ⟨k, x, rfl, hk, hm, hx, e1, o, S, _⟩ := sets_ok hf h0 h
  rw [e1]
  have hl := look_same o.right (k := k) (by rw [o.guest]; exact hk)
  obtain ⟨f1, f2, f3⟩ := entries_facts hm (page_in hm hk)
  have E := put_eff hm (page_in hm hk) (entries_set f1 _ hf) (fun y hy => by
    rcases List.mem_or_eq_of_mem_set hy with h3 | rfl
    · exact f2 y h3
    · exact ok_of (.inl h0)) (f3.set hk rfl e) hx
  have hkr : k / 4 < x.root.length := by rw [E.rlen]; exact page_in hm hk
  have he : entryOf (settled x).slots (settled x).root k = e := by
    have h1 := (settled_entry S (mem_root x) hkr).1
    show entryOf (settled x).slots x.root k = e
    rw [h1, E.at_ k rfl, int_set_eq (by have := (entriesErr_is f1).1; omega)]
  rw [entry_entries] at he
  have hy := page_in o.right (n := k) (by rw [o.guest]; exact hk)
  have h4 := (entriesErr_is (entries_facts o.right hy).1).1
  have hs : (entriesAt (settled x) (k / 4))[k % 4]? = some e := by
    unfold int at he
    rw [List.getD_eq_getElem?_getD, List.getElem?_eq_getElem (by omega)] at he
    rw [List.getElem?_eq_getElem (by omega)]
    exact congrArg some he
  have hp : setM (settled x) k e = some (settled x) := by
    unfold setM putM
    rw [set_self hs, if_pos rfl]
  refine ⟨by unfold setE; rw [if_pos hl, Int.toNat_natCast, hp]; rfl, ?_⟩
  unfold setI
  rw [if_pos hl, Int.toNat_natCast, hp]
  exact settled_id o.right
theorem counts_congr {x y : Img} (hl : y.slots.length = x.slots.length) (hk : ∀ n, kindN y.slots n = kindN x.slots n) (ht : ∀ n, tableN y.slots n = tableN x.slots n) (hr : rootsOf y = rootsOf x) : countsOf y = countsOf x := by
  rw [countsOf_row, countsOf_row, hl]
  exact row_congr fun j _ => by have := cnt_congr hl hk ht hr j; unfold cnt at this; rw [this]
theorem write_twice {m : Img} {n : Int} {one two : ByteArray} (h : writeE m n one = 0) (h2 : two.size = 4) : writeE (writeI m n one) n two = 0 ∧ slotsErr (writeI m n one).slots = 0 ∧ slotsErr (writeI (writeI m n one) n two).slots = 0 ∧
    usedN (writeI (writeI m n one) n two).slots = usedN (writeI m n one).slots ∧ (writeI (writeI m n one) n two).slots.length = (writeI m n one).slots.length ∧ (writeI (writeI m n one) n two).root = (writeI m n one).root := by
  obtain ⟨k, x, rfl, hk, _, hm, hx, e1, o, ⟨j, d, a1, a2, a3, a4, a5, a6, a7, a8⟩, S, _⟩ := writes_ok h
  rw [e1]
  have hl := look_same o.right (k := k) (by rw [o.guest]; exact hk)
  have hroot : (settled x).root = x.root := rfl
  have hrefs : (settled x).refs = countsOf x := rfl
  have hkr : k / 4 < x.root.length := page_in o.right (n := k) (by rw [o.guest]; exact hk)
  have he : entryOf (settled x).slots (settled x).root k = (d : Nat) := by rw [hroot, (settled_entry S (mem_root x) hkr).1, a5]
  have hrj : int (settled x).refs j = 1 := by rw [hrefs, int_cnt a4, a3]; rfl
  have hrd : int (settled x).refs d = 1 := by rw [hrefs, int_cnt a8, a7]; rfl
  have ho : ownT (settled x) (k / 4) = true := by unfold ownT; rw [hroot, a1, Int.toNat_natCast, hrj, decide_eq_true (by omega)]; rfl
  have hdl : d < (settled x).slots.length := by rw [settled_len]; exact a8
  have hds := List.getElem?_eq_getElem hdl
  generalize (settled x).slots[d] = sd at hds
  have hwm : writeM (settled x) k two = some { settled x with slots := (settled x).slots.set d { sd with data := two } } := by
    unfold writeM
    dsimp only
    rw [ho, he, if_pos ⟨rfl, by omega, by rw [Int.toNat_natCast]; exact hrd⟩, Int.toNat_natCast, List.getD_eq_getElem?_getD, hds]; rfl
  have hwe : writeE (settled x) (k : Nat) two = 0 := by unfold writeE; rw [if_pos hl, if_pos h2, Int.toNat_natCast, hwm]; rfl
  have hwi : writeI (settled x) (k : Nat) two = settled { settled x with slots := (settled x).slots.set d { sd with data := two } } := by unfold writeI; rw [if_pos ⟨hl, h2⟩, Int.toNat_natCast, hwm]; rfl
  obtain ⟨k', z, ek, _, _, _, hz, e2, o2, _, S2, _⟩ := writes_ok hwe
  have ek : k = k' := by omega
  subst ek
  rw [hwm] at hz
  injection hz with hz
  have hkN : ∀ i, kindN ((settled x).slots.set d { sd with data := two }) i = kindN (settled x).slots i := fun i => kindN_set (s := { sd with data := two }) hds rfl i
  have htN : ∀ i, tableN ((settled x).slots.set d { sd with data := two }) i = tableN (settled x).slots i := fun i => tableN_set (s := { sd with data := two }) hds rfl i
  have hcs : countsOf { settled x with slots := (settled x).slots.set d { sd with data := two } } = countsOf (settled x) := counts_congr (by simp) hkN htN rfl
  have hlk : leaksN { settled x with slots := (settled x).slots.set d { sd with data := two } } = 0 := by
    rw [← leaks_none (m := x)]
    unfold leaksN
    rw [hcs]
    simp only [List.length_set, hkN]
  have s1 := (sound_of (check_is o.right).1).slots
  have s2 := (sound_of (check_is o2.right).1).slots
  refine ⟨hwe, s1, by rw [hwi, hz]; exact s2, ?_, by rw [hwi, settled_len]; simp, by rw [hwi]; rfl⟩
  rw [hwi]
  rw [← hz] at s2
  unfold usedN
  rw [if_pos s2, if_pos s1]
  have hu : used { settled x with slots := (settled x).slots.set d { sd with data := two } }.slots = used (settled { settled x with slots := (settled x).slots.set d { sd with data := two } }).slots + leaksN { settled x with slots := (settled x).slots.set d { sd with data := two } } := Sl.used_all
  rw [hlk] at hu
  have hk2 : used ((settled x).slots.set d { sd with data := two }) = used (settled x).slots := used_kinds _ _ (by
    rw [List.map_set]
    exact set_self (by rw [List.getElem?_map, hds]; rfl))
  have hu' : used ((settled x).slots.set d { sd with data := two }) = used (settled { settled x with slots := (settled x).slots.set d { sd with data := two } }).slots := hu
  omega
end Go.Proofs.Ytmdjoafbckphfaa
