/- What Pack leaves as it was: pages, snapshots, room to write. No conditions. -/
import Derived.Test.YtmdjoafbckphfaaPurePk
import Derived.Test.YtmdjoafbckphfaaPureU
namespace Go.Proofs.Ytmdjoafbckphfaa
open Sl
section
variable {m : Img}
theorem pack_all (h : checkErr m = 0) : allM (packM m) = allM m := by
  rw [allM_is h, allM_is (pack_right h)]
  exact List.map_congr_left fun n _ => pack_pageAt (sound_of (check_is h).1) (mem_root m) n
theorem firstAt_map {α β : Type} (p : β → Bool) (f : α → β) : ∀ l : List α, firstAt p (l.map f) = firstAt (fun x => p (f x)) l := by
  intro l
  induction l with
  | nil => rfl
  | cons a l ih => simp only [List.map_cons, firstAt, ih]
theorem pack_past (h : checkErr m = 0) (name : ByteArray) : pastE (packM m) name = pastE m name ∧ pastV (packM m) name = pastV m name := by
  have S := sound_of (check_is h).1
  have hp := pack_right h
  have ea : (packM m).snaps.any (named name) = m.snaps.any (named name) := by
    show (m.snaps.map (renP m.slots)).any (named name) = _
    rw [List.any_map]; rfl
  have e1 : pastE (packM m) name = pastE m name := by unfold pastE; rw [if_pos h, if_pos hp, ea]
  refine ⟨e1, ?_⟩
  by_cases hn : m.snaps.any (named name) = true
  · obtain ⟨k, s, k1, k2, k3, _, _, k5⟩ := past_ok h hn
    obtain ⟨k', s', q1, q2, q3, _, _, q5⟩ := past_ok hp (by rw [ea]; exact hn)
    have hk : k' = k := by
      rw [← q3, ← k3]
      show firstAt (named name) (m.snaps.map (renP m.slots)) = _
      rw [firstAt_map]; rfl
    subst hk
    have hs : s' = renP m.slots s := by
      have : (m.snaps.map (renP m.slots))[k']? = some s' := q2
      rw [List.getElem?_map, k2] at this
      injection this with this
      exact this.symm
    subst hs
    rw [q5, k5]
    exact List.map_congr_left fun n _ => pack_pageAt S (mem_snap (List.mem_of_getElem? k2)) n
  · rw [(past_none h (by simpa using hn)).2.1, (past_none hp (by rw [ea]; simpa using hn)).2.1]
theorem ren_small (S : Sound m) {a : Int} (h : ValidE m.slots a) : ren m.slots a < 40 ∧ a < 40 := by
  have h1 := used_lt_len S
  have h2 := (slotsErr_len S.slots).2
  rcases h with h | ⟨n, s, rfl, n1, hs, hk⟩
  · rw [ren_low h]; omega
  · rw [ren_nat n1]
    have := used_ltAll hs hk
    have := (List.getElem?_eq_some_iff.1 hs).1
    omega
theorem dct_pack (S : Sound m) (l : List Int) (hv : ∀ a ∈ l, ValidE m.slots a) (i : Nat) : dct 50 ((l.map (ren m.slots)).set i ((40 : Nat) : Int)) = dct 50 (l.set i ((40 : Nat) : Int)) := by
  have e : (l.map (ren m.slots)).set i ((40 : Nat) : Int) = (l.set i ((40 : Nat) : Int)).map (fun e => if e = 40 then 40 else ren m.slots e) := by
    rw [List.map_set, show (if ((40 : Nat) : Int) = 40 then (40 : Int) else ren m.slots ((40 : Nat) : Int)) = ((40 : Nat) : Int) from by rw [if_pos (by rfl)]; rfl]
    congr 1
    exact List.map_congr_left fun a ha => by rw [if_neg (by have := (ren_small S (hv a ha)).2; omega)]
  have hm : ∀ a ∈ l.set i ((40 : Nat) : Int), a ∈ l ∨ a = 40 := fun a ha => (List.mem_or_eq_of_mem_set ha)
  rw [e]
  refine dct_map _ (fun a ha => ?_) (fun a ha => ?_) (fun a ha => ?_) (fun a ha b hb h => ?_)
  · split
    · rename_i h; rw [h]
    · exact ren_pos
  · rcases hm a ha with h | h
    · have := (ren_small S (hv a h)).2; omega
    · omega
  · split
    · decide
    · rename_i hne
      rcases hm a ha with h | h
      · have := (ren_small S (hv a h)).1; omega
      · exact absurd h hne
  · rcases hm a ha with ha' | ha'
    · have qa := ren_small S (hv a ha')
      rw [if_neg (by omega)] at h
      rcases hm b hb with hb' | hb'
      · have qb := ren_small S (hv b hb')
        rw [if_neg (by omega)] at h
        exact ren_inj (hv a ha') (hv b hb') h
      · rw [if_pos hb'] at h; omega
    · rw [if_pos ha'] at h
      rcases hm b hb with hb' | hb'
      · have qb := ren_small S (hv b hb')
        rw [if_neg (by omega)] at h
        omega
      · rw [ha', hb']
theorem TL_pack : TL (packM m) = (TL m).map (ren m.slots) := by
  unfold TL packM
  simp only [List.map_append, List.map_flatten, List.map_map]
  rfl
theorem ents_pack (S : Sound m) {r : List Int} (hr : r ∈ rootsOf m) : entsR (packS m.slots) (r.map (ren m.slots)) = (entsR m.slots r).map (ren m.slots) := by
  unfold entsR
  rw [List.length_map, List.map_map]
  exact List.map_congr_left fun n _ => pack_entry (fun k => root_cases S.wired hr k) n
theorem PL_pack (S : Sound m) : PL (packM m) = (PL m).map (ren m.slots) := by
  show entsR (packS m.slots) (m.root.map (ren m.slots)) ++ (((m.snaps.map (renP m.slots)).map (·.root)).map (entsR (packS m.slots))).flatten = (entsR m.slots m.root ++ ((m.snaps.map (·.root)).map (entsR m.slots)).flatten).map (ren m.slots)
  rw [List.map_append, List.map_flatten, ents_pack S (mem_root m)]
  congr 2
  rw [List.map_map, List.map_map, List.map_map, List.map_map]
  exact List.map_congr_left fun s hs => ents_pack S (mem_snap hs)
theorem V_pack (h : checkErr m = 0) (k : Nat) : Vn 50 40 (packM m) k = Vn 50 40 m k := by
  have S := sound_of (check_is h).1
  unfold Vn
  rw [TL_pack, PL_pack S, dct_pack S _ ?_, dct_pack S _ ?_]
  · intro a ha
    obtain ⟨r, hr, n, _, e⟩ := mem_PL.1 ha
    rw [← e]; exact valid_ok (entry_okT S.tables r n)
  · intro a ha
    obtain ⟨r, hr, he⟩ := mem_TL.1 ha
    exact valid_root S hr he
theorem none_iff (h : checkErr m = 0) {k : Nat} (hk : (k : Int) < m.guest) {pg : ByteArray} (hp : pg.size = 4) : writeM m k pg = none ↔ 40 ≤ Vn 50 40 m k := by
  refine ⟨fun hn => none_V h hk (by omega) (by omega) hn, fun hv => ?_⟩
  cases hw : writeM m k pg with
  | none => rfl
  | some x =>
    have := step_V (F := 40) (N := 50) (write_step h hk hp hw) h hk (by omega) (by omega)
    omega
theorem pack_writeE (h : checkErr m = 0) (n : Int) (pg : ByteArray) : writeE (packM m) n pg = writeE m n pg := by
  have hp := pack_right h
  have hl : lookE (packM m) n = lookE m n := look_alike h hp rfl n
  unfold writeE
  rw [hl]
  by_cases he : lookE m n = 0
  · rw [if_pos he, if_pos he]
    by_cases h4 : pg.size = 4
    · rw [if_pos h4, if_pos h4]
      obtain ⟨_, n0, ng⟩ := look_is he
      obtain ⟨k, rfl⟩ := Int.eq_ofNat_of_zero_le n0
      rw [Int.toNat_natCast]
      have i1 := none_iff h ng h4
      have i2 := none_iff (m := packM m) hp (k := k) ng h4
      rw [V_pack h] at i2
      cases hw : writeM m k pg with
      | none => rw [i2.2 (i1.1 hw)]
      | some x =>
        cases hw2 : writeM (packM m) k pg with
        | none => rw [i1.2 (i2.1 hw2)] at hw; cases hw
        | some y => rfl
    · rw [if_neg h4, if_neg h4]
  · rw [if_neg he, if_neg he]
theorem pack_room (h : checkErr m = 0) {n : Int} {pg : ByteArray} (hw : writeE m n pg = 0) : checkErr (writeI m n pg) = 0 ∧ checkErr (writeI (packM m) n pg) = 0 ∧ allM (writeI (packM m) n pg) = allM (writeI m n pg) := by
  have hw2 := (pack_writeE h n pg).trans hw
  obtain ⟨a1, _, a3⟩ := fa_true hw
  obtain ⟨b1, _, b3⟩ := fa_true hw2
  exact ⟨a1, b1, by rw [a3, b3, pack_all h]⟩
end
/-- What Pack answers. -/
def packI (m : Img) : Img := if checkErr m = 0 then packM m else noImg
theorem packI_ok {m : Img} (h : checkErr m = 0) : packI m = packM m := by unfold packI; rw [if_pos h]
theorem packI_no {m : Img} (h : checkErr m ≠ 0) : packI m = noImg := by unfold packI; rw [if_neg h]
theorem pack_true {m : Img} (h : checkErr m = 0) (name : ByteArray) : checkErr (packI m) = 0 ∧ allM (packI m) = allM m ∧ pastE (packI m) name = pastE m name ∧ pastV (packI m) name = pastV m name ∧ usedN m.slots = (used m.slots : Nat) ∧ (packI m).slots.length = used m.slots + 1 ∧ packI (packI m) = packI m ∧ slotsErr m.slots = 0 := by
  have S := sound_of (check_is h).1
  rw [packI_ok h, packI_ok (pack_right h)]
  exact ⟨pack_right h, pack_all h, (pack_past h name).1, (pack_past h name).2, by unfold usedN; rw [if_pos S.slots], pack_len, pack_again h, S.slots⟩
end Go.Proofs.Ytmdjoafbckphfaa
