/- Snapshots: the plain model of creating, reverting and deleting them. No conditions. -/
import Derived.Test.YtfilnnjanhjbeaaPureY
import Derived.Test.YtfilnnjanhjbeaaPureSnA
namespace Go.Proofs.Ytfilnnjanhjbeaa
open Sl
/-- Another Root and other snapshots, all of them right. -/
theorem sound_snaps {m : Img} (S : Sound m) {g : Int} {r f : List Int} {p : List Snap} (hl : p.length ≤ 3) (hn : namesOk p = true) (hg : ∀ s ∈ p, guestOk s.guest = true ∧ rootFine m.slots s.guest s.root = true) (hg2 : guestOk g = true)
    (hr : rootFine m.slots g r = true) : Sound ⟨g, r, m.slots, f, p⟩ := by
  have hz := sizesOk_is S.sizes
  refine ⟨sizesOk_yes ⟨hz.1, hz.2.1, hl⟩, S.slots, hn, ?_, S.tables, ?_⟩
  · unfold guestsOk; rw [Bool.and_eq_true, List.all_eq_true]; exact ⟨hg2, fun s hs => (hg s hs).1⟩
  · unfold rootsOk; rw [Bool.and_eq_true, List.all_eq_true]; exact ⟨hr, fun s hs => (hg s hs).2⟩
theorem snaps_facts {m : Img} (S : Sound m) : m.snaps.length ≤ 3 ∧ (∀ s ∈ m.snaps, guestOk s.guest = true ∧ rootFine m.slots s.guest s.root = true) ∧ guestOk m.guest = true ∧ rootFine m.slots m.guest m.root = true ∧ (∀ s ∈ m.snaps, isName s.name = true) ∧ Sorted m.snaps := by
  obtain ⟨h1, h2, h3⟩ := sound_roots S
  have hg := S.guests
  unfold guestsOk at hg
  rw [Bool.and_eq_true, List.all_eq_true] at hg
  obtain ⟨n1, n2⟩ := names_iff.1 S.names
  exact ⟨(sizesOk_is S.sizes).2.2, fun s hs => ⟨hg.2 s hs, h3 s hs⟩, h1, h2, n1, n2⟩
def createX (m : Img) (name : ByteArray) : Img := { m with snaps := putS m.snaps ⟨name, m.guest, m.root⟩ }
def snapOf (m : Img) (name : ByteArray) : Snap := snapAt m.snaps (firstAt (named name) m.snaps)
def revX (m : Img) (name : ByteArray) : Img := { m with guest := (snapOf m name).guest, root := (snapOf m name).root }
def delX (m : Img) (name : ByteArray) : Img := { m with snaps := m.snaps.eraseIdx (firstAt (named name) m.snaps) }
def createE (m : Img) (name : ByteArray) : Int :=
  if checkErr m = 0 then (if isName name = false then 4 else if m.snaps.any (named name) = true then 6 else if m.snaps.length = 3 then 2 else 0) else checkErr m
def createI (m : Img) (name : ByteArray) : Img := if createE m name = 0 then settled (createX m name) else noImg
def revertI (m : Img) (name : ByteArray) : Img := if pastE m name = 0 then settled (revX m name) else noImg
def deleteI (m : Img) (name : ByteArray) : Img := if pastE m name = 0 then settled (delX m name) else noImg
theorem create_is {m : Img} {name : ByteArray} (h : createE m name = 0) : checkErr m = 0 ∧ isName name = true ∧ m.snaps.any (named name) = false ∧ m.snaps.length < 3 := by
  unfold createE at h
  split at h
  · rename_i hm
    split at h
    · contradiction
    · rename_i h1
      split at h
      · contradiction
      · rename_i h2
        split at h
        · contradiction
        · rename_i h3
          have := (sizesOk_is (sound_of (check_is hm).1).sizes).2.2
          exact ⟨hm, by simpa using h1, by simpa using h2, by omega⟩
  · contradiction
theorem create_sound {m : Img} {name : ByteArray} (h : createE m name = 0) : Sound (createX m name) := by
  obtain ⟨hm, h1, h2, h3⟩ := create_is h
  have S := sound_of (check_is hm).1
  obtain ⟨s1, s2, s3, s4, s5, s6⟩ := snaps_facts S
  refine sound_snaps S (by rw [put_len1]; omega) (names_iff.2 ⟨fun s hs => ?_, sorted_put s6 h2⟩) (fun s hs => ?_) s3 s4
  · rcases put_mem.1 hs with rfl | hs
    · exact h1
    · exact s5 s hs
  · rcases put_mem.1 hs with rfl | hs
    · exact ⟨s3, s4⟩
    · exact s2 s hs
/-- What Past finds. -/
theorem past_is {m : Img} {name : ByteArray} (h : pastE m name = 0) : checkErr m = 0 ∧ ∃ (k : Nat) (s : Snap), m.snaps[k]? = some s ∧ named name s = true ∧ firstAt (named name) m.snaps = k ∧ insK m.snaps name = k ∧ snapOf m name = s ∧ pastV m name = (List.range s.guest.toNat).map (pageAt m s.root) := by
  have hm := past_check h
  have ha : m.snaps.any (named name) = true := by
    unfold pastE at h
    rw [if_pos hm] at h
    by_cases hh : m.snaps.any (named name) = true
    · exact hh
    · rw [if_neg hh] at h; cases h
  have S6 := (snaps_facts (sound_of (check_is hm).1)).2.2.2.2.2
  obtain ⟨s, hs, hn⟩ := (find_any S6).1 ha
  obtain ⟨f1, f2⟩ := find_at S6 hs hn
  obtain ⟨k', s', q1, q2, q3, _, _, q5⟩ := past_ok hm ha
  have : k' = insK m.snaps name := by rw [← q3, f1]
  subst this
  rw [hs] at q2
  injection q2 with q2
  subst q2
  exact ⟨hm, _, s, hs, hn, f1, rfl, by unfold snapOf; rw [f1, snapAt_at hs], q5⟩
theorem past_in {y : Img} (hy : checkErr y = 0) {name : ByteArray} {s : Snap} (hs : s ∈ y.snaps) (hn : named name s = true) : pastE y name = 0 ∧ pastV y name = (List.range s.guest.toNat).map (pageAt y s.root) ∧ snapOf y name = s := by
  have ha : y.snaps.any (named name) = true := List.any_eq_true.2 ⟨s, hs, hn⟩
  have h0 : pastE y name = 0 := by unfold pastE; rw [if_pos hy, if_pos ha]
  obtain ⟨_, k, s', k1, k2, k3, k4, k5, k6⟩ := past_is h0
  obtain ⟨j, hj, rfl⟩ := List.mem_iff_getElem.1 hs
  have S6 := (snaps_facts (sound_of (check_is hy).1)).2.2.2.2.2
  have e := sorted_at S6 (List.getElem?_eq_getElem hj) hn
  have : j = k := by omega
  subst this
  rw [List.getElem?_eq_getElem hj] at k1
  injection k1 with k1
  subst k1
  exact ⟨h0, k6, k5⟩
theorem rev_sound {m : Img} {name : ByteArray} (h : pastE m name = 0) : Sound (revX m name) := by
  obtain ⟨hm, k, s, h1, h2, h3, _, h5, _⟩ := past_is h
  have S := sound_of (check_is hm).1
  obtain ⟨s1, s2, s3, s4, s5, s6⟩ := snaps_facts S
  have hs := s2 s (List.mem_of_getElem? h1)
  unfold revX
  rw [h5]
  exact sound_snaps S s1 S.names s2 hs.1 hs.2
theorem del_mem {l : List Snap} {k : Nat} {s : Snap} (h : s ∈ l.eraseIdx k) : s ∈ l := (List.eraseIdx_sublist l k).subset h
theorem del_sound {m : Img} {name : ByteArray} (h : pastE m name = 0) : Sound (delX m name) := by
  obtain ⟨hm, k, s, h1, h2, h3, _, h5, _⟩ := past_is h
  have S := sound_of (check_is hm).1
  obtain ⟨s1, s2, s3, s4, s5, s6⟩ := snaps_facts S
  exact sound_snaps S (Nat.le_trans (List.eraseIdx_sublist _ _).length_le s1) (names_iff.2 ⟨fun s hs => s5 s (del_mem hs), List.Pairwise.sublist (List.eraseIdx_sublist _ _) s6⟩) (fun s hs => s2 s (del_mem hs)) s3 s4
/-- Roots tell more, the slots are the same: counts grow. -/
theorem cnt_more {m x : Img} (hs : x.slots = m.slots) (h : ∀ n, toldAll (rootsOf m) n ≤ toldAll (rootsOf x) n) (n : Nat) : cnt m n ≤ cnt x n := by
  unfold cnt countAt
  rw [hs]
  split
  · omega
  · have h1 := h n
    have h2 : sumOf ((List.range (m.slots.length - 1)).map (fun k => toldBy m.slots (rootsOf m) n (k + 1))) ≤ sumOf ((List.range (m.slots.length - 1)).map (fun k => toldBy m.slots (rootsOf x) n (k + 1))) := by
      generalize List.range (m.slots.length - 1) = l
      induction l with
      | nil => simp [sumOf]
      | cons a l ih =>
        simp only [List.map_cons, sumOf]
        have : toldBy m.slots (rootsOf m) n (a + 1) ≤ toldBy m.slots (rootsOf x) n (a + 1) := by
          unfold toldBy
          have := h ((a + 1 : Nat) : Int)
          by_cases hh : kindN m.slots (a + 1) = 2 ∧ 0 < toldAll (rootsOf m) ((a + 1 : Nat) : Int)
          · rw [if_pos hh, if_pos ⟨hh.1, by omega⟩]; omega
          · rw [if_neg hh]; omega
        omega
    split <;> omega
theorem leaks_zero {m x : Img} (hm : checkErr m = 0) (hs : x.slots = m.slots) (h : ∀ n, toldAll (rootsOf m) n ≤ toldAll (rootsOf x) n) : leaksN x = 0 := by
  unfold leaksN
  rw [List.countP_eq_zero]
  intro j hj
  have hjl := List.mem_range.1 hj
  rw [hs] at hjl
  rw [int_cnt (by rw [hs]; exact hjl), hs]
  have h1 := cnt_more hs h j
  have h2 := kind_cnt hm hjl
  intro hh
  simp only [Bool.and_eq_true, beq_iff_eq, bne_iff_ne, ne_eq] at hh
  exact hh.2 (h2.1 (by omega))
theorem toldAll_put {l : List Snap} {x : Snap} (n : Int) : toldAll ((putS l x).map (·.root)) n = told x.root n + toldAll (l.map (·.root)) n := by
  have e : toldAll (l.map (·.root)) n = toldAll ((l.take (insK l x.name)).map (·.root)) n + toldAll ((l.drop (insK l x.name)).map (·.root)) n := by
    conv => lhs; rw [← List.take_append_drop (insK l x.name) l]
    rw [← told_flat, ← told_flat, ← told_flat, List.map_append, List.flatten_append, told_append]
  rw [e]
  unfold putS
  rw [← told_flat, ← told_flat, ← told_flat, List.map_append, List.map_cons, List.flatten_append, List.flatten_cons, told_append, told_append]
  omega
theorem create_used {m : Img} {name : ByteArray} (h : createE m name = 0) : checkErr (createI m name) = 0 ∧ slotsErr m.slots = 0 ∧ slotsErr (createI m name).slots = 0 ∧ usedN (createI m name).slots = usedN m.slots := by
  have S := create_sound h
  obtain ⟨hm, _⟩ := create_is h
  have e : createI m name = settled (createX m name) := by unfold createI; rw [if_pos h]
  have hr := settled_right S
  have h1 := (sound_of (check_is hm).1).slots
  have h2 := (sound_of (check_is hr).1).slots
  rw [e]
  refine ⟨hr, h1, h2, ?_⟩
  unfold usedN
  rw [if_pos h1, if_pos h2]
  have h3 := Sl.used_all (m := createX m name)
  rw [leaks_zero (m := m) (x := createX m name) hm rfl fun n => by rw [rootsOf_told, rootsOf_told]; show _ ≤ told m.root n + toldAll ((putS m.snaps ⟨name, m.guest, m.root⟩).map (·.root)) n; rw [toldAll_put]; omega] at h3
  have h4 : (createX m name).slots = m.slots := rfl
  rw [h4] at h3
  omega
theorem less_used {m x : Img} (hm : checkErr m = 0) (S : Sound x) (hs : x.slots = m.slots) : checkErr (settled x) = 0 ∧ slotsErr m.slots = 0 ∧ slotsErr (settled x).slots = 0 ∧ usedN (settled x).slots ≤ usedN m.slots := by
  have hr := settled_right S
  have h1 := (sound_of (check_is hm).1).slots
  have h2 := (sound_of (check_is hr).1).slots
  refine ⟨hr, h1, h2, ?_⟩
  unfold usedN
  rw [if_pos h1, if_pos h2]
  have h3 := Sl.used_all (m := x)
  rw [hs] at h3
  omega
theorem revert_used {m : Img} {name : ByteArray} (h : pastE m name = 0) : checkErr (revertI m name) = 0 ∧ slotsErr m.slots = 0 ∧ slotsErr (revertI m name).slots = 0 ∧ usedN (revertI m name).slots ≤ usedN m.slots := by
  unfold revertI; rw [if_pos h]; exact less_used (past_check h) (rev_sound h) rfl
theorem delete_used {m : Img} {name : ByteArray} (h : pastE m name = 0) : checkErr (deleteI m name) = 0 ∧ slotsErr m.slots = 0 ∧ slotsErr (deleteI m name).slots = 0 ∧ usedN (deleteI m name).slots ≤ usedN m.slots := by
  unfold deleteI; rw [if_pos h]; exact less_used (past_check h) (del_sound h) rfl
/-- Pages that a settled image's Roots tell are those of what it was settled from. -/
theorem all_settled {m x : Img} (S : Sound x) (hs : x.slots = m.slots) (hr : x.root = m.root) (hg : x.guest = m.guest) (hm : checkErr m = 0) : allM (settled x) = allM m := by
  rw [allM_is (settled_right S), allM_is hm]
  show (List.range x.guest.toNat).map (pageAt (settled x) x.root) = _
  rw [hg]
  refine List.map_congr_left fun n _ => ?_
  rw [settled_pages S (mem_root x), hr]
  unfold pageAt; rw [hs]
theorem past_settled {m x : Img} (S : Sound x) (hs : x.slots = m.slots) {name : ByteArray} {s : Snap} (hm : s ∈ x.snaps) (hn : named name s = true) : pastE (settled x) name = 0 ∧ pastV (settled x) name = (List.range s.guest.toNat).map (pageAt m s.root) ∧ snapOf (settled x) name = s := by
  obtain ⟨h1, h2, h3⟩ := past_in (settled_right S) (show s ∈ (settled x).snaps from hm) hn
  refine ⟨h1, h2.trans (List.map_congr_left fun n _ => ?_), h3⟩
  rw [settled_pages S (mem_snap hm)]
  unfold pageAt; rw [hs]
theorem past_gone {x : Img} (S : Sound x) {name : ByteArray} (h : x.snaps.any (named name) = false) : pastE (settled x) name = 5 ∧ pastV (settled x) name = [] := by
  obtain ⟨h1, h2, _⟩ := past_none (settled_right S) (show (settled x).snaps.any (named name) = false from h)
  exact ⟨h1, h2⟩
/-- Snapshots by a name that both images have alike. -/
theorem past_alike {m x : Img} (hm : checkErr m = 0) (S : Sound x) (hs : x.slots = m.slots) {name : ByteArray} (h1 : ∀ s ∈ m.snaps, named name s = true → s ∈ x.snaps) (h2 : ∀ s ∈ x.snaps, named name s = true → s ∈ m.snaps) : pastE (settled x) name = pastE m name ∧ pastV (settled x) name = pastV m name := by
  cases ha : m.snaps.any (named name)
  · have hb : x.snaps.any (named name) = false := by
      cases hb : x.snaps.any (named name)
      · rfl
      · obtain ⟨s, q1, q2⟩ := List.any_eq_true.1 hb
        exact absurd (List.any_eq_true.2 ⟨s, h2 s q1 q2, q2⟩) (by rw [ha]; decide)
    obtain ⟨p1, p2⟩ := past_gone S hb
    obtain ⟨r1, r2, _⟩ := past_none hm ha
    exact ⟨p1.trans r1.symm, p2.trans r2.symm⟩
  · obtain ⟨s, q1, q2⟩ := List.any_eq_true.1 ha
    obtain ⟨p1, p2, _⟩ := past_settled S hs (h1 s q1 q2) q2
    obtain ⟨r1, r2, _⟩ := past_in hm q1 q2
    exact ⟨p1.trans r1.symm, p2.trans r2.symm⟩
theorem named_other {name other : ByteArray} (hne : (name.toList == other.toList) = false) {s : Snap} (h : named other s = true) : named name s = false := by
  cases hh : named name s
  · rfl
  · have h1 := named_iff.1 hh; have h2 := named_iff.1 h
    rw [← h1, h2] at hne; simp at hne
theorem create_true {m : Img} {name : ByteArray} (h : createE m name = 0) : checkErr m = 0 ∧ checkErr (createI m name) = 0 ∧ allM (createI m name) = allM m ∧ pastE (createI m name) name = 0 ∧ pastV (createI m name) name = allM m ∧
    ∀ other : ByteArray, (name.toList == other.toList) = false → pastE (createI m name) other = pastE m other ∧ pastV (createI m name) other = pastV m other := by
  have S := create_sound h
  obtain ⟨hm, h1, h2, h3⟩ := create_is h
  have e : createI m name = settled (createX m name) := by unfold createI; rw [if_pos h]
  rw [e]
  have hin : (⟨name, m.guest, m.root⟩ : Snap) ∈ (createX m name).snaps := put_mem.2 (.inl rfl)
  obtain ⟨p1, p2, _⟩ := past_settled (m := m) S rfl hin (named_iff.2 rfl)
  refine ⟨hm, settled_right S, all_settled S rfl rfl rfl hm, p1, by rw [p2, allM_is hm], fun other hne => past_alike hm S rfl (fun s hs _ => put_mem.2 (.inr hs)) fun s hs hn => ?_⟩
  rcases put_mem.1 hs with rfl | hs
  · have := named_other hne hn
    have h5 : named name (⟨name, m.guest, m.root⟩ : Snap) = true := named_iff.2 rfl
    rw [h5] at this; cases this
  · exact hs
theorem revert_true {m : Img} {name : ByteArray} (h : pastE m name = 0) : checkErr (revertI m name) = 0 ∧ allM (revertI m name) = pastV m name ∧ pastE (revertI m name) name = 0 ∧ pastV (revertI m name) name = pastV m name := by
  have S := rev_sound h
  obtain ⟨hm, k, s, h1, h2, h3, _, h5, h6⟩ := past_is h
  have e : revertI m name = settled (revX m name) := by unfold revertI; rw [if_pos h]
  rw [e]
  obtain ⟨p1, p2⟩ := past_alike hm S rfl (name := name) (fun s hs _ => hs) fun s hs _ => hs
  refine ⟨settled_right S, ?_, p1.trans h, p2⟩
  rw [allM_is (settled_right S), h6]
  show (List.range (snapOf m name).guest.toNat).map (pageAt (settled (revX m name)) (revX m name).root) = _
  rw [h5]
  refine List.map_congr_left fun n _ => ?_
  rw [settled_pages S (mem_root _)]
  show pageAt m (snapOf m name).root n = _
  rw [h5]
theorem erase_named {l : List Snap} (S : Sorted l) {name : ByteArray} {k : Nat} {s : Snap} (hs : l[k]? = some s) (hn : named name s = true) : (l.eraseIdx k).any (named name) = false := by
  rw [List.any_eq_false]
  intro t ht hh
  obtain ⟨j, hj, rfl⟩ := List.mem_iff_getElem.1 ht
  have h1 := List.getElem?_eq_getElem hj
  rw [List.getElem?_eraseIdx] at h1
  have e := sorted_at S hs hn
  split at h1
  · have := sorted_at S h1 hh; omega
  · have := sorted_at S h1 hh; omega
theorem erase_else {l : List Snap} {name : ByteArray} {k : Nat} {s t : Snap} (hs : l[k]? = some s) (hn : named name s = true) (ht : t ∈ l) (hh : named name t = false) : t ∈ l.eraseIdx k := by
  obtain ⟨j, hj, rfl⟩ := List.mem_iff_getElem.1 ht
  have hjk : j ≠ k := by
    rintro rfl
    rw [List.getElem?_eq_getElem hj] at hs
    injection hs with hs
    rw [hs, hn] at hh; cases hh
  rcases Nat.lt_or_ge j k with h | h
  · exact List.mem_of_getElem? (i := j) (by rw [List.getElem?_eraseIdx, if_pos h]; exact List.getElem?_eq_getElem hj)
  · exact List.mem_of_getElem? (i := j - 1) (by rw [List.getElem?_eraseIdx, if_neg (by omega), show j - 1 + 1 = j from by omega]; exact List.getElem?_eq_getElem hj)
theorem delete_true {m : Img} {name : ByteArray} (h : pastE m name = 0) : checkErr (deleteI m name) = 0 ∧ allM (deleteI m name) = allM m ∧ pastE (deleteI m name) name = 5 ∧
    ∀ other : ByteArray, (name.toList == other.toList) = false → pastE (deleteI m name) other = pastE m other ∧ pastV (deleteI m name) other = pastV m other := by
  have S := del_sound h
  obtain ⟨hm, k, s, h1, h2, h3, _, h5, h6⟩ := past_is h
  have S6 := (snaps_facts (sound_of (check_is hm).1)).2.2.2.2.2
  have e : deleteI m name = settled (delX m name) := by unfold deleteI; rw [if_pos h]
  rw [e]
  refine ⟨settled_right S, all_settled S rfl rfl rfl hm, (past_gone S ?_).1, fun other hne => past_alike hm S rfl (fun t ht hn => ?_) fun t ht _ => del_mem ht⟩
  · show (m.snaps.eraseIdx _).any _ = false
    rw [h3]; exact erase_named S6 h1 h2
  · show t ∈ m.snaps.eraseIdx _
    rw [h3]; exact erase_else h1 h2 ht (named_other hne hn)
theorem put_at (l : List Snap) (x : Snap) : (putS l x)[insK l x.name]? = some x := by
  have := insK_le l x.name
  unfold putS
  rw [List.getElem?_append_right (by rw [List.length_take]; omega), List.length_take, show insK l x.name - min (insK l x.name) l.length = 0 from by omega]; rfl
theorem put_erase (l : List Snap) (x : Snap) : (putS l x).eraseIdx (insK l x.name) = l := by
  have := insK_le l x.name
  unfold putS
  rw [List.eraseIdx_append_of_length_le (by rw [List.length_take]; omega), List.length_take, show insK l x.name - min (insK l x.name) l.length = 0 from by omega, List.eraseIdx_cons_zero, List.take_append_drop]
/-- Created, written, reverted, deleted: the image is what it was. -/
theorem back_true {m : Img} {name : ByteArray} {n : Int} {pg : ByteArray} (h : createE m name = 0) (hw : writeE (createI m name) n pg = 0) : pastE (writeI (createI m name) n pg) name = 0 ∧ pastE (revertI (writeI (createI m name) n pg) name) name = 0 ∧
    checkErr m = 0 ∧ checkErr (deleteI (revertI (writeI (createI m name) n pg) name) name) = 0 ∧ slotsErr m.slots = 0 ∧ slotsErr (deleteI (revertI (writeI (createI m name) n pg) name) name).slots = 0 ∧
    usedN m.slots = usedN (deleteI (revertI (writeI (createI m name) n pg) name) name).slots ∧ allM (deleteI (revertI (writeI (createI m name) n pg) name) name) = allM m ∧
    (deleteI (revertI (writeI (createI m name) n pg) name) name).root = m.root ∧ (deleteI (revertI (writeI (createI m name) n pg) name) name).snaps = m.snaps := by
  obtain ⟨hm, ha, t1, t2, t3, _⟩ := create_true h
  obtain ⟨_, c1, c2, c3⟩ := create_is h
  have Sa := create_sound h
  obtain ⟨e1, e2, e3⟩ := fa_true hw
  obtain ⟨p1, p2⟩ := fa_past t2 hw
  obtain ⟨k, x, rfl, wk, wp, wm, wx, we, wo, _, Sx, _⟩ := writes_ok hw
  have hS6 := (snaps_facts (sound_of (check_is hm).1)).2.2.2.2.2
  have ea : createI m name = settled (createX m name) := by unfold createI; rw [if_pos h]
  generalize hb : writeI (createI m name) (k : Nat) pg = b at *
  have hsb : b.snaps = putS m.snaps ⟨name, m.guest, m.root⟩ := by rw [we, wo.snaps, ea]; rfl
  obtain ⟨r1, r2, r3, r4⟩ := revert_true p1
  generalize hc : revertI b name = c at *
  have ec : c = settled (revX b name) := by rw [← hc]; unfold revertI; rw [if_pos p1]
  have Sr := rev_sound p1
  have hso : snapOf b name = ⟨name, m.guest, m.root⟩ := (past_in e1 (s := ⟨name, m.guest, m.root⟩) (by rw [hsb]; exact put_mem.2 (.inl rfl)) (named_iff.2 rfl)).2.2
  have hcr : c.root = m.root := by rw [ec]; show (snapOf b name).root = _; rw [hso]
  have hcg : c.guest = m.guest := by rw [ec]; show (snapOf b name).guest = _; rw [hso]
  have hcs : c.snaps = putS m.snaps ⟨name, m.guest, m.root⟩ := by rw [ec]; exact hsb
  obtain ⟨d1, d2, d3, _⟩ := delete_true r3
  have Sd := del_sound r3
  have ed : deleteI c name = settled (delX c name) := by unfold deleteI; rw [if_pos r3]
  have hfc : firstAt (named name) c.snaps = insK m.snaps name := by
    have hSc := (snaps_facts (sound_of (check_is r1).1)).2.2.2.2.2
    rw [hcs] at hSc ⊢
    exact (find_at hSc (put_at m.snaps ⟨name, m.guest, m.root⟩) (named_iff.2 rfl)).1
  have hds : (delX c name).snaps = m.snaps := by
    show c.snaps.eraseIdx _ = _
    rw [hfc, hcs]; exact put_erase m.snaps ⟨name, m.guest, m.root⟩
  have hs1 := (sound_of (check_is hm).1).slots
  have hs2 := (sound_of (check_is d1).1).slots
  -- entries of the Roots that are left
  have key : ∀ r, r = m.root ∨ r ∈ m.snaps.map (·.root) → entsR (delX c name).slots r = entsR m.slots r := by
    intro r hr
    have hra : ∃ s ∈ (createI m name).snaps, s.root = r := by
      rw [ea]
      show ∃ s ∈ putS m.snaps _, _
      rcases hr with rfl | hr
      · exact ⟨_, put_mem.2 (.inl rfl), rfl⟩
      · obtain ⟨s, hs, rfl⟩ := List.mem_map.1 hr
        exact ⟨s, put_mem.2 (.inr hs), rfl⟩
    obtain ⟨s, hsm, rfl⟩ := hra
    have hxs : x.snaps = (createI m name).snaps := by have := wo.snaps; exact this
    have q1 : entsR (createI m name).slots s.root = entsR m.slots s.root := by
      rw [ea]
      exact ents_settled Sa (mem_snap (by rw [ea] at hsm; exact hsm))
    have q2 : entsR b.slots s.root = entsR (createI m name).slots s.root := by
      rw [we, ents_settled Sx (mem_snap (by rw [hxs]; exact hsm))]
      unfold entsR
      exact List.map_congr_left fun i _ => (write_at wm (page_at wm wk) wk wp wx).2.2 s hsm i
    have q3 : entsR c.slots s.root = entsR b.slots s.root := by
      rw [ec]
      refine ents_settled Sr (mem_snap ?_)
      show s ∈ b.snaps
      rw [we]; show s ∈ x.snaps
      rw [hxs]; exact hsm
    show entsR c.slots s.root = _
    rw [q3, q2, q1]
  have hT : TL (deleteI c name) = TL m := by
    rw [ed]
    show c.root ++ ((delX c name).snaps.map (·.root)).flatten = _
    rw [hcr, hds]; rfl
  have hP : PL (deleteI c name) = PL m := by
    rw [ed, PL_settled Sd]
    unfold PL
    rw [hds, show (delX c name).root = m.root from hcr, key _ (.inl rfl)]
    congr 2
    exact List.map_congr_left fun r hr => key r (.inr hr)
  refine ⟨p1, r3, hm, d1, hs1, hs2, ?_, ?_, ?_, ?_⟩
  · unfold usedN
    rw [if_pos hs1, if_pos hs2, used_dct hm (N := 40) (Nat.le_refl _), used_dct d1 (N := 40) (Nat.le_refl _), hT, hP]
  · rw [d2, r2, p2, t3]
  · rw [ed]; exact hcr
  · rw [ed]; exact hds
end Go.Proofs.Ytfilnnjanhjbeaa
