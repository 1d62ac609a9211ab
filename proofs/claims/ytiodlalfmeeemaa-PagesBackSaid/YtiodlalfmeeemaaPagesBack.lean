/- The law PagesBack, walked. No conditions beside the reading of the arguments. -/
import Derived.Test.YtiodlalfmeeemaaPagesLaws
import Derived.IntWalk
namespace Go.Proofs.Ytiodlalfmeeemaa
open Go.RowKit Sl

theorem chunk_len (l : List UInt8) (i : Nat) (h : 4 * i + 4 ≤ l.length) : (chunk l i).length = 4 := by
  unfold chunk; rw [List.length_take, List.length_drop]; omega
theorem chunks_flat (l : List UInt8) (m : Nat) (h : 4 * m ≤ l.length) : ((List.range m).map (chunk l)).flatten = l.take (4 * m) := by
  induction m with
  | zero => simp
  | succ m ih =>
    rw [List.range_succ, List.map_append, List.flatten_append, ih (by omega)]
    simp only [List.map_cons, List.map_nil, List.flatten_cons, List.flatten_nil, List.append_nil]
    unfold chunk
    rw [show 4 * (m + 1) = 4 * m + 4 from by omega, List.take_add]
theorem split_is {s : ByteArray} (h : splitE s = 0) : s.size ≤ 64 ∧ splitV s = (List.range ((padL (toL s)).length / 4)).map (fun i => ofL (chunk (padL (toL s)) i)) := by
  unfold splitE at h
  split at h
  · omega
  · rename_i h64
    refine ⟨by omega, ?_⟩
    unfold splitV
    rw [if_neg h64, splitL_chunks 17 _ (by rw [toL_len]; omega), List.map_map]
    rfl
theorem splitV_ok {s : ByteArray} (h : splitE s = 0) : pagesErr (splitV s) = 0 := by
  obtain ⟨h1, h2⟩ := split_is h
  have hp := padL_len (toL s)
  rw [toL_len] at hp
  rw [h2]
  refine pagesErr_ok (by rw [List.length_map, List.length_range]; omega) ?_
  rw [List.all_eq_true]
  intro x hx
  obtain ⟨i, hi, rfl⟩ := List.mem_map.1 hx
  have := List.mem_range.1 hi
  unfold isPage
  rw [beq_iff_eq, ← toL_len, toL_ofL, chunk_len _ _ (by omega)]
/-- JOIN OF SPLIT. -/
theorem join_split {s : ByteArray} (h : splitE s = 0) : joinV (splitV s) = ofL (padL (toL s)) := by
  have h0 := splitV_ok h
  obtain ⟨h1, h2⟩ := split_is h
  have hp := padL_len (toL s)
  unfold joinV
  rw [if_pos h0, h2, List.map_map]
  congr 1
  rw [show (toL ∘ fun i => ofL (chunk (padL (toL s)) i)) = chunk (padL (toL s)) from funext fun i => toL_ofL _, chunks_flat _ _ (by omega), List.take_of_length_le (by omega)]
/-- SPLIT OF JOIN. -/
theorem split_join {l : List ByteArray} (h : pagesErr l = 0) : splitE (joinV l) = 0 ∧ splitV (joinV l) = l := by
  obtain ⟨h1, h2⟩ := pagesErr_len h
  have hv : joinV l = ofL (l.map toL).flatten := by unfold joinV; rw [if_pos h]
  have hl := flat_len l h2
  have hsz : (joinV l).size = 4 * l.length := by rw [← toL_len, hv, toL_ofL, hl]
  have he : splitE (joinV l) = 0 := by unfold splitE; rw [if_neg (by omega)]
  refine ⟨he, ?_⟩
  obtain ⟨_, q⟩ := split_is he
  have hpad : padL (toL (joinV l)) = (l.map toL).flatten := by
    unfold padL
    rw [toL_len, hsz, show (4 - 4 * l.length % 4) % 4 = 0 from by omega, hv, toL_ofL]; simp
  rw [q, hpad, hl, show 4 * l.length / 4 = l.length from by omega]
  have key : ∀ (L : List ByteArray), L.all isPage = true → (List.range L.length).map (fun i => ofL (chunk (L.map toL).flatten i)) = L := by
    intro L
    induction L with
    | nil => intro _; rfl
    | cons a L ih =>
      intro hL
      simp only [List.all_cons, Bool.and_eq_true] at hL
      have ha : a.size = 4 := by have := hL.1; unfold isPage at this; simpa using this
      rw [List.length_cons, List.range_succ_eq_map, List.map_cons, List.map_map]
      congr 1
      · unfold chunk
        rw [List.map_cons, List.flatten_cons, Nat.mul_zero, List.drop_zero, List.take_append_of_le_length (by rw [toL_len]; omega), List.take_of_length_le (by rw [toL_len]; omega), ofL_toL]
      · refine Eq.trans ?_ (ih hL.2)
        apply List.map_congr_left
        intro i _
        simp only [Function.comp_apply, chunk, List.map_cons, List.flatten_cons, Nat.succ_eq_add_one]
        rw [show 4 * (i + 1) = 4 + 4 * i from by omega, ← List.drop_drop, List.drop_append_of_le_length (by rw [toL_len]; omega), show List.drop 4 (toL a) = [] from List.drop_of_length_le (by rw [toL_len]; omega), List.nil_append]
  exact key l h2
theorem padded_is {s t : ByteArray} (ht : t = ofL (padL (toL s))) : s.size ≤ t.size ∧ t.size < s.size + 4 ∧ t.extract 0 s.size = s ∧ ∀ k (h : k < t.size), s.size ≤ k → t[k] = 0 := by
  have hp := padL_len (toL s)
  rw [toL_len] at hp
  have hts : t.size = (padL (toL s)).length := by rw [ht, ← toL_len, toL_ofL]
  refine ⟨by omega, by omega, ?_, fun k h hk => ?_⟩
  · apply toL_eq
    rw [toL_extract, ht, toL_ofL, List.drop_zero, Nat.sub_zero]
    unfold padL
    rw [List.take_append_of_le_length (by rw [toL_len]; omega), List.take_of_length_le (by rw [toL_len]; omega)]
  · have h1 : (toL t)[k]? = some t[k] := by
      rw [List.getElem?_eq_getElem (by rw [toL_len]; exact h)]
      rfl
    generalize t[k] = u at h1 ⊢
    rw [ht, toL_ofL] at h1
    unfold padL at h1
    rw [List.getElem?_append_right (by rw [toL_len]; exact hk), List.getElem?_replicate] at h1
    split at h1
    · exact (Option.some.inj h1).symm
    · cases h1
theorem patch_is {p : ByteArray} {x : Int} {s : ByteArray} (h : patchE p x s = 0) : p.size = 4 ∧ 0 ≤ x ∧ x + s.size ≤ 4 := by
  unfold patchE at h
  split at h
  · split at h
    · rename_i h1 h2; exact ⟨h1, h2.1, by omega⟩
    · omega
  · omega
theorem patched_is {p s q : ByteArray} {k : Nat} (hp : p.size = 4) (hk : k + s.size ≤ 4) (hq : q = ofL ((toL p).take k ++ toL s ++ (toL p).drop (k + s.size))) :
    q.size = 4 ∧ q.extract k (k + s.size) = s ∧ q.extract 0 k = p.extract 0 k ∧ q.extract (k + s.size) q.size = p.extract (k + s.size) p.size := by
  have hz : q.size = 4 := by
    rw [hq, ← toL_len, toL_ofL, List.length_append, List.length_append, List.length_take, List.length_drop, toL_len, toL_len]; omega
  have hl : ((toL p).take k).length = k := by rw [List.length_take, toL_len]; omega
  have hq' : toL q = (toL p).take k ++ (toL s ++ (toL p).drop (k + s.size)) := by rw [hq, toL_ofL, List.append_assoc]
  refine ⟨hz, ?_, ?_, ?_⟩
  · apply toL_eq
    rw [toL_extract, hq', List.drop_append_of_le_length (by omega), List.drop_of_length_le (by omega), List.nil_append, show k + s.size - k = s.size from by omega, List.take_append_of_le_length (by rw [toL_len]; omega),
      List.take_of_length_le (by rw [toL_len]; omega)]
  · apply toL_eq
    rw [toL_extract, toL_extract, hq', List.drop_zero, List.drop_zero, Nat.sub_zero, List.take_append_of_le_length (by omega), List.take_of_length_le (by omega)]
  · apply toL_eq
    rw [toL_extract, toL_extract, hq', ← List.append_assoc, hz, hp, List.drop_append_of_le_length (by rw [List.length_append, hl, toL_len]; omega), List.drop_of_length_le (by rw [List.length_append, hl, toL_len]; omega), List.nil_append]

set_option maxRecDepth 100000 in
set_option maxHeartbeats 4000000 in
theorem law_pagesBack (A : Option Addr) (n c : Nat) (l : List ByteArray) (s p : ByteArray) (x : Int) (s2 : ByteArray) (w : World) (h : StrsR w w.heap.size A n l) (hn : n ≤ c) (hc : n ≤ 4611686018427387903) (hs : s.size ≤ 4611686018427387903) (hs2 : s2.size ≤ 4611686018427387903) (hx : I64 x) :
    Calls Try.prog 9 #[.slice A n c, .string s, .string p, .int .i64 x, .string s2] w fun e w' => e = .returned (.bool true) ∧ Below w.heap.size w w' := by
  have HB0 := Below.refl w.heap.size w
  have LN := Lib.hid h.len
  have K1 := Lib.hid (fun W => split_any s W hs)
  have K2 := Lib.hid (fun W (hb : Below w.heap.size w W) => join_any A n c l W (h.next hb) hn hc)
  have K5 := Lib.hid (fun W => patch_any p x s2 W hs2 hx)
  clear hn
  by_cases he : splitE s = 0
  · have a1 := splitV_ok he
    obtain ⟨z1, z2, z3, z4⟩ := padded_is (join_split he)
    have hv1 := splitV_len s
    rw [he] at K1
    generalize splitV s = v1 at K1 a1 z1 z2 z3 z4 hv1
    have KJ := Lib.hid (fun W A n c (r : Got W A n v1) (hn : n ≤ c) (hc : n ≤ 4611686018427387903) => join_any A n c v1 W (r.strs (pages_small a1)) hn hc)
    rw [a1] at KJ
    generalize joinV v1 = t at KJ z1 z2 z3 z4
    have Z3 := Lib.hid z3
    have Z4 := Lib.hid z4
    have hs64 : s.size ≤ 64 := by unfold splitE at he; split at he <;> omega
    clear he a1 z3 z4
    go_enter Try.func9, Try.ntmps9
    go_wp2_with fail
    refine (K1.out _).mono ?_
    rintro e w1 ⟨A1, n1, c1, rfl, ho1, hb1, hc1, hm1⟩
    have r1 : Got w1 A1 n1 v1 := Rd.of_own ho1
    have l1 : n1 ≤ 4611686018427387903 := by have := ho1.1; simp at this; omega
    have HB1 := below_next HB0 hb1
    clear ho1 hb1
    go_wp2_with fail
    refine (KJ.out _ _ _ _ r1 hc1 l1).mono ?_
    rintro e w2 ⟨rfl, hb2⟩
    have HB2 := below_next HB1 hb2
    clear hb2 r1
    have z3 := Z3.out
    have hsub : ¬ (4 : Int) ≤ (t.size : Int) - s.size := by omega
    go_wp2_with fail
    go_loop [15] (fun iv => ∃ k : Nat, s.size ≤ k ∧ k ≤ t.size ∧ iv = .int .i64 k) (fun iv => t.size - (intOf iv).toNat)
    case atStart => exact ⟨s.size, Nat.le_refl _, z1, rfl⟩
    case round =>
      obtain ⟨k, hk1, hk2, rfl⟩ := hrel
      by_cases hlt : k < t.size
      · have hz := Z4.out k hlt hk1
        go_wp2_with fail
        (go_round
         case rel => exact ⟨k + 1, by omega, by omega, by go_num⟩
         case measure => simp [intOf]; omega)
      · clear z3
        have hge : ¬ (k : Int) < t.size := by omega
        by_cases hj : pagesErr l = 0
        · obtain ⟨j1, j2⟩ := split_join hj
          have K3' := fun W => split_any (joinV l) W (by unfold splitE at j1; split at j1 <;> omega)
          rw [j1, j2] at K3'
          rw [hj] at K2
          have K3 := Lib.hid K3'
          generalize joinV l = t2 at K2 K3
          clear K3' j1 j2 hj
          go_wp2_with fail
          refine (K2.out _ HB2).mono ?_
          rintro e w3 ⟨rfl, hb3⟩
          have HB3 := below_next HB2 hb3
          clear hb3
          go_wp2_with fail
          refine (K3.out _).mono ?_
          rintro e w4 ⟨A4, n4, c4, rfl, ho4, hb4, hc4, hm4⟩
          have r4 : Got w4 A4 n4 l := Rd.of_own ho4
          have l4 : n4 ≤ 4611686018427387903 := by have := ho4.1; simp at this; have := LN.out; omega
          have HB4 := below_next HB3 hb4
          clear ho4 hb4
          go_wp2_with fail
          refine (samePages_any _ _ _ _ _ _ l l _ r4 (h.next HB4).1 l4 hc).mono ?_
          rintro e w5 ⟨rfl, hb5⟩
          have HBj := below_next HB4 hb5
          clear hb5 r4 l4
          by_cases hp : patchE p x s2 = 0
          · obtain ⟨p4, x0, xs⟩ := patch_is hp
            obtain ⟨k, rfl⟩ := Int.eq_ofNat_of_zero_le x0
            have hks : k + s2.size ≤ 4 := by omega
            obtain ⟨_, hv⟩ := patch_ok p4 hks
            obtain ⟨q1, q2, q3, q4⟩ := patched_is p4 hks hv
            rw [hp] at K5
            generalize patchV p k s2 = q at K5 q1 q2 q3 q4
            have Q := Lib.hid (And.intro q2 (And.intro q3 q4))
            have P4 := Lib.hid (And.intro p4 q1)
            have hqp : q.size = p.size := by omega
            have g1 : ((q.size : Int) != p.size) = false := by simp [hqp]
            have g2 : (k : Int) + s2.size ≤ q.size := by omega
            have g2n : k + s2.size ≤ q.size := by omega
            have g3 : (k : Int) + s2.size ≤ p.size := by omega
            have g3n : k + s2.size ≤ p.size := by omega
            have g5 : (0 : Int) ≤ (k : Int) + s2.size := by omega
            have g6 : (k : Int) ≤ q.size := by omega
            have g7 : (k : Int) ≤ p.size := by omega
            have g8 : (k : Int) ≤ 4 := by omega
            have g9 : (s2.size : Int) ≤ 4 := by omega
            clear hv q1 q2 q3 q4 p4 hqp hp x0 xs
            go_wp2_with fail
            refine (K5.out _).mono ?_
            rintro e w5 ⟨rfl, hb5⟩
            have HB5 := below_next HBj hb5
            clear hb5
            go_wp2_with fail
            have q2 := Q.out.1
            have q3 := Q.out.2.1
            have q4 := Q.out.2.2
            clear K1 K2 K5 Q HB0 LN h P4
            have hwr : IntKind.i64.wrap ((k : Int) + (s2.size : Int)) = (k : Int) + (s2.size : Int) := IntWalk.i64_in _ (by omega)
            have hnn : ((k : Int) + (s2.size : Int)).toNat = k + s2.size := by omega
            have g10 : (k : Int) ≤ (k : Int) + (s2.size : Int) := by omega
            go_region_held3 (fun w' => Below w.heap.size w w') (first | exact HB5.drew | (refine below_next HB5.drew ?_; assumption)) (first | (go_at_call 33; refine (pagesBegun_any _).mono ?_; rintro e w6 ⟨rfl, hb6⟩))
            clear hwr hnn
            go_wp2_with fail
            go_ret
            exact ⟨rfl, below_next HB5.drew hb6⟩
          · have hp' : (patchE p x s2 != 0) = true := by simpa using hp
            clear hp
            go_wp2_with fail
            refine (K5.out _).mono ?_
            rintro e w5 ⟨rfl, hb5⟩
            have HB5 := below_next HBj hb5
            clear hb5
            go_wp2_with fail
            refine (pagesBegun_any _).mono ?_
            rintro e w6 ⟨rfl, hb6⟩
            go_wp2_with fail
            go_ret
            exact ⟨rfl, below_next HB5 hb6⟩
        · have hj' : (pagesErr l == 0) = false := by simpa using hj
          clear hj
          go_wp2_with fail
          refine (K2.out _ HB2).mono ?_
          rintro e w3 ⟨rfl, hb3⟩
          have HBj := below_next HB2 hb3
          clear hb3
          by_cases hp : patchE p x s2 = 0
          · obtain ⟨p4, x0, xs⟩ := patch_is hp
            obtain ⟨k, rfl⟩ := Int.eq_ofNat_of_zero_le x0
            have hks : k + s2.size ≤ 4 := by omega
            obtain ⟨_, hv⟩ := patch_ok p4 hks
            obtain ⟨q1, q2, q3, q4⟩ := patched_is p4 hks hv
            rw [hp] at K5
            generalize patchV p k s2 = q at K5 q1 q2 q3 q4
            have Q := Lib.hid (And.intro q2 (And.intro q3 q4))
            have P4 := Lib.hid (And.intro p4 q1)
            have hqp : q.size = p.size := by omega
            have g1 : ((q.size : Int) != p.size) = false := by simp [hqp]
            have g2 : (k : Int) + s2.size ≤ q.size := by omega
            have g2n : k + s2.size ≤ q.size := by omega
            have g3 : (k : Int) + s2.size ≤ p.size := by omega
            have g3n : k + s2.size ≤ p.size := by omega
            have g5 : (0 : Int) ≤ (k : Int) + s2.size := by omega
            have g6 : (k : Int) ≤ q.size := by omega
            have g7 : (k : Int) ≤ p.size := by omega
            have g8 : (k : Int) ≤ 4 := by omega
            have g9 : (s2.size : Int) ≤ 4 := by omega
            clear hv q1 q2 q3 q4 p4 hqp hp x0 xs
            go_wp2_with fail
            refine (K5.out _).mono ?_
            rintro e w5 ⟨rfl, hb5⟩
            have HB5 := below_next HBj hb5
            clear hb5
            go_wp2_with fail
            have q2 := Q.out.1
            have q3 := Q.out.2.1
            have q4 := Q.out.2.2
            clear K1 K2 K5 Q HB0 LN h P4
            have hwr : IntKind.i64.wrap ((k : Int) + (s2.size : Int)) = (k : Int) + (s2.size : Int) := IntWalk.i64_in _ (by omega)
            have hnn : ((k : Int) + (s2.size : Int)).toNat = k + s2.size := by omega
            have g10 : (k : Int) ≤ (k : Int) + (s2.size : Int) := by omega
            go_region_held3 (fun w' => Below w.heap.size w w') (first | exact HB5.drew | (refine below_next HB5.drew ?_; assumption)) (first | (go_at_call 33; refine (pagesBegun_any _).mono ?_; rintro e w6 ⟨rfl, hb6⟩))
            clear hwr hnn
            go_wp2_with fail
            go_ret
            exact ⟨rfl, below_next HB5.drew hb6⟩
          · have hp' : (patchE p x s2 != 0) = true := by simpa using hp
            clear hp
            go_wp2_with fail
            refine (K5.out _).mono ?_
            rintro e w5 ⟨rfl, hb5⟩
            have HB5 := below_next HBj hb5
            clear hb5
            go_wp2_with fail
            refine (pagesBegun_any _).mono ?_
            rintro e w6 ⟨rfl, hb6⟩
            go_wp2_with fail
            go_ret
            exact ⟨rfl, below_next HB5 hb6⟩
  · have he' : (splitE s == 0) = false := by simpa using he
    clear he
    go_enter Try.func9, Try.ntmps9
    go_wp2_with fail
    refine (K1.out _).mono ?_
    rintro e w1 ⟨A1, n1, c1, rfl, ho1, hb1, hc1, hm1⟩
    have HB2 := below_next HB0 hb1
    clear ho1 hb1
    by_cases hj : pagesErr l = 0
    · obtain ⟨j1, j2⟩ := split_join hj
      have K3' := fun W => split_any (joinV l) W (by unfold splitE at j1; split at j1 <;> omega)
      rw [j1, j2] at K3'
      rw [hj] at K2
      have K3 := Lib.hid K3'
      generalize joinV l = t2 at K2 K3
      clear K3' j1 j2 hj
      go_wp2_with fail
      refine (K2.out _ HB2).mono ?_
      rintro e w3 ⟨rfl, hb3⟩
      have HB3 := below_next HB2 hb3
      clear hb3
      go_wp2_with fail
      refine (K3.out _).mono ?_
      rintro e w4 ⟨A4, n4, c4, rfl, ho4, hb4, hc4, hm4⟩
      have r4 : Got w4 A4 n4 l := Rd.of_own ho4
      have l4 : n4 ≤ 4611686018427387903 := by have := ho4.1; simp at this; have := LN.out; omega
      have HB4 := below_next HB3 hb4
      clear ho4 hb4
      go_wp2_with fail
      refine (samePages_any _ _ _ _ _ _ l l _ r4 (h.next HB4).1 l4 hc).mono ?_
      rintro e w5 ⟨rfl, hb5⟩
      have HBj := below_next HB4 hb5
      clear hb5 r4 l4
      by_cases hp : patchE p x s2 = 0
      · obtain ⟨p4, x0, xs⟩ := patch_is hp
        obtain ⟨k, rfl⟩ := Int.eq_ofNat_of_zero_le x0
        have hks : k + s2.size ≤ 4 := by omega
        obtain ⟨_, hv⟩ := patch_ok p4 hks
        obtain ⟨q1, q2, q3, q4⟩ := patched_is p4 hks hv
        rw [hp] at K5
        generalize patchV p k s2 = q at K5 q1 q2 q3 q4
        have Q := Lib.hid (And.intro q2 (And.intro q3 q4))
        have P4 := Lib.hid (And.intro p4 q1)
        have hqp : q.size = p.size := by omega
        have g1 : ((q.size : Int) != p.size) = false := by simp [hqp]
        have g2 : (k : Int) + s2.size ≤ q.size := by omega
        have g2n : k + s2.size ≤ q.size := by omega
        have g3 : (k : Int) + s2.size ≤ p.size := by omega
        have g3n : k + s2.size ≤ p.size := by omega
        have g5 : (0 : Int) ≤ (k : Int) + s2.size := by omega
        have g6 : (k : Int) ≤ q.size := by omega
        have g7 : (k : Int) ≤ p.size := by omega
        have g8 : (k : Int) ≤ 4 := by omega
        have g9 : (s2.size : Int) ≤ 4 := by omega
        clear hv q1 q2 q3 q4 p4 hqp hp x0 xs
        go_wp2_with fail
        refine (K5.out _).mono ?_
        rintro e w5 ⟨rfl, hb5⟩
        have HB5 := below_next HBj hb5
        clear hb5
        go_wp2_with fail
        have q2 := Q.out.1
        have q3 := Q.out.2.1
        have q4 := Q.out.2.2
        clear K1 K2 K5 Q HB0 LN h P4
        have hwr : IntKind.i64.wrap ((k : Int) + (s2.size : Int)) = (k : Int) + (s2.size : Int) := IntWalk.i64_in _ (by omega)
        have hnn : ((k : Int) + (s2.size : Int)).toNat = k + s2.size := by omega
        have g10 : (k : Int) ≤ (k : Int) + (s2.size : Int) := by omega
        go_region_held3 (fun w' => Below w.heap.size w w') (first | exact HB5.drew | (refine below_next HB5.drew ?_; assumption)) (first | (go_at_call 33; refine (pagesBegun_any _).mono ?_; rintro e w6 ⟨rfl, hb6⟩))
        clear hwr hnn
        go_wp2_with fail
        go_ret
        exact ⟨rfl, below_next HB5.drew hb6⟩
      · have hp' : (patchE p x s2 != 0) = true := by simpa using hp
        clear hp
        go_wp2_with fail
        refine (K5.out _).mono ?_
        rintro e w5 ⟨rfl, hb5⟩
        have HB5 := below_next HBj hb5
        clear hb5
        go_wp2_with fail
        refine (pagesBegun_any _).mono ?_
        rintro e w6 ⟨rfl, hb6⟩
        go_wp2_with fail
        go_ret
        exact ⟨rfl, below_next HB5 hb6⟩
    · have hj' : (pagesErr l == 0) = false := by simpa using hj
      clear hj
      go_wp2_with fail
      refine (K2.out _ HB2).mono ?_
      rintro e w3 ⟨rfl, hb3⟩
      have HBj := below_next HB2 hb3
      clear hb3
      by_cases hp : patchE p x s2 = 0
      · obtain ⟨p4, x0, xs⟩ := patch_is hp
        obtain ⟨k, rfl⟩ := Int.eq_ofNat_of_zero_le x0
        have hks : k + s2.size ≤ 4 := by omega
        obtain ⟨_, hv⟩ := patch_ok p4 hks
        obtain ⟨q1, q2, q3, q4⟩ := patched_is p4 hks hv
        rw [hp] at K5
        generalize patchV p k s2 = q at K5 q1 q2 q3 q4
        have Q := Lib.hid (And.intro q2 (And.intro q3 q4))
        have P4 := Lib.hid (And.intro p4 q1)
        have hqp : q.size = p.size := by omega
        have g1 : ((q.size : Int) != p.size) = false := by simp [hqp]
        have g2 : (k : Int) + s2.size ≤ q.size := by omega
        have g2n : k + s2.size ≤ q.size := by omega
        have g3 : (k : Int) + s2.size ≤ p.size := by omega
        have g3n : k + s2.size ≤ p.size := by omega
        have g5 : (0 : Int) ≤ (k : Int) + s2.size := by omega
        have g6 : (k : Int) ≤ q.size := by omega
        have g7 : (k : Int) ≤ p.size := by omega
        have g8 : (k : Int) ≤ 4 := by omega
        have g9 : (s2.size : Int) ≤ 4 := by omega
        clear hv q1 q2 q3 q4 p4 hqp hp x0 xs
        go_wp2_with fail
        refine (K5.out _).mono ?_
        rintro e w5 ⟨rfl, hb5⟩
        have HB5 := below_next HBj hb5
        clear hb5
        go_wp2_with fail
        have q2 := Q.out.1
        have q3 := Q.out.2.1
        have q4 := Q.out.2.2
        clear K1 K2 K5 Q HB0 LN h P4
        have hwr : IntKind.i64.wrap ((k : Int) + (s2.size : Int)) = (k : Int) + (s2.size : Int) := IntWalk.i64_in _ (by omega)
        have hnn : ((k : Int) + (s2.size : Int)).toNat = k + s2.size := by omega
        have g10 : (k : Int) ≤ (k : Int) + (s2.size : Int) := by omega
        go_region_held3 (fun w' => Below w.heap.size w w') (first | exact HB5.drew | (refine below_next HB5.drew ?_; assumption)) (first | (go_at_call 33; refine (pagesBegun_any _).mono ?_; rintro e w6 ⟨rfl, hb6⟩))
        clear hwr hnn
        go_wp2_with fail
        go_ret
        exact ⟨rfl, below_next HB5.drew hb6⟩
      · have hp' : (patchE p x s2 != 0) = true := by simpa using hp
        clear hp
        go_wp2_with fail
        refine (K5.out _).mono ?_
        rintro e w5 ⟨rfl, hb5⟩
        have HB5 := below_next HBj hb5
        clear hb5
        go_wp2_with fail
        refine (pagesBegun_any _).mono ?_
        rintro e w6 ⟨rfl, hb6⟩
        go_wp2_with fail
        go_ret
        exact ⟨rfl, below_next HB5 hb6⟩
end Go.Proofs.Ytiodlalfmeeemaa
