/- Pack's closure: a row's numbers are renamed in place. Conditions: the row is the call's own; each number stands in the map. -/
import Derived.Test.YtmdjoafbckphfaaPkOwn
namespace Go.Proofs.Ytmdjoafbckphfaa
open Go.RowKit Sl
theorem ren_set {f : Int → Int} {xs : List Int} {k : Nat} {x : Int} (hx : xs[k]? = some x) : ((xs.take k).map f ++ xs.drop k).set k (f x) = (xs.take (k + 1)).map f ++ xs.drop (k + 1) := by
  have hk := (List.getElem?_eq_some_iff.1 hx).1
  have hd : xs.drop k = x :: xs.drop (k + 1) := by
    rw [List.drop_eq_getElem_cons hk]
    congr 1
    exact (List.getElem?_eq_some_iff.1 hx).2
  have hl : ((xs.take k).map f).length = k := by rw [List.length_map, List.length_take]; omega
  rw [hd, List.set_append_right _ _ (by omega), hl, Nat.sub_self, List.set_cons_zero, List.take_add_one, hx, List.map_append]
  simp
theorem ren_at {f : Int → Int} {xs : List Int} {k : Nat} : ((xs.take k).map f ++ xs.drop k)[k]? = xs[k]? := by
  by_cases hk : k < xs.length
  · have hl : ((xs.take k).map f).length = k := by rw [List.length_map, List.length_take]; omega
    rw [List.getElem?_append_right (by omega), hl, Nat.sub_self, List.getElem?_drop, Nat.add_zero]
  · rw [List.getElem?_eq_none (by simp; omega), List.getElem?_eq_none (by omega)]
set_option maxRecDepth 100000 in
set_option maxHeartbeats 1000000 in
theorem rename_own (nb mb base g n c : Nat) (f : Int → Int) (ks : List (Int × Int)) (xs : List Int) (w : World) (hN : w.cell? ⟨nb, 0, none⟩ = some (.map (some mb))) (hM : MapAt w mb ks) (hf : ∀ x ∈ xs, ∃ k', ks.find? (fun p => p.1 == x) = some (k', f x))
    (ho : w.ownsRow base 3 1 (.slice (some ⟨g, 0, none⟩) n c) n (ints xs)) (hnb : nb ≠ g) (hmb : mb ≠ g) (hn : n ≤ 1000000) :
    Calls Try.prog 45 #[.slice (some ⟨g, 0, none⟩) n c, .pointer (some ⟨nb, 0, none⟩)] w fun e w' => e = .returned (.tuple #[]) ∧ w'.ownsRow base 3 1 (.slice (some ⟨g, 0, none⟩) n c) n (ints (xs.map f)) ∧ w.grownBy w' (some g) := by
  have hx : xs.length = n := by have := ho.1; simpa [ints] using this
  have hT := own_block ho rfl
  have HF := Lib.hid hf
  have HM := Lib.hid hM
  have HN := Lib.hid hN
  have HO := Lib.hid ho
  have HX := Lib.hid hx
  clear hf hM hN ho hx
  go_enter Try.func45, Try.ntmps45
  go_wp2_with fail
  go_loopw [7] (fun i wr => ∃ k : Nat, k ≤ n ∧ i = .int .i64 k ∧ wr.ownsRow base 3 1 (.slice (some ⟨g, 0, none⟩) n c) n (ints ((xs.take k).map f ++ xs.drop k)) ∧ w.grownBy wr (some g)) (fun i _ => n - (intOf i).toNat)
  case atStart => exact ⟨0, Nat.zero_le _, rfl, by simpa using HO.out, ⟨rfl, rfl, rfl, Nat.le_refl _, fun _ _ _ => rfl⟩⟩
  case round =>
    obtain ⟨k, hkn, rfl, ho, hg⟩ := hrel
    have HOr := Lib.hid ho
    by_cases hlt : k < n
    · obtain ⟨x, hxk⟩ : ∃ x, xs[k]? = some x := ⟨_, List.getElem?_eq_getElem (by rw [HX.out]; exact hlt)⟩
      have HXK := Lib.hid hxk
      obtain ⟨k', hfind⟩ := HF.out x (List.mem_of_getElem? hxk)
      have hlook := run_getI (P := Try.prog) Try.underlying78 Try.underlying3 (HM.out.kept hg (fun e => hmb (by injection e))) hfind
      have c1 := ho.cellAt k (by omega)
      have c2 : (ints ((xs.take k).map f ++ xs.drop k))[k]? = some (.int .i64 x) := by unfold ints; rw [List.getElem?_map, ren_at, hxk]; rfl
      rw [c2] at c1
      have f1 := ho.frozenAt k
      have cN := hg.cell HN.out (fun e => hnb (by injection e))
      obtain ⟨o1, g1⟩ := ho.stored k (.int .i64 (f x))
      have e3 : (ints ((xs.take k).map f ++ xs.drop k)).set k (.int .i64 (f x)) = ints ((xs.take (k + 1)).map f ++ xs.drop (k + 1)) := by
        rw [← ren_set hxk]; unfold ints; rw [List.map_set]
      rw [e3] at o1
      have HO1 := Lib.hid o1
      have HG1 := Lib.hid (hg.trans g1)
      have e0 : (0 : Int) ≤ (k : Int) := by omega
      have e1 : (k : Int) < (n : Int) := by omega
      clear ho o1 g1 e3 c2 hfind hxk
      go_wp2_with fail
      go_roundw
      case rel => exact ⟨k + 1, by omega, by go_num, HO1.out, HG1.out⟩
      case measure => simp [intOf]; omega
    · obtain rfl : k = n := by omega
      go_wp2_with fail
      go_end0
      refine ⟨rfl, ?_, hg⟩
      have e := HX.out
      rw [List.take_of_length_le (by omega), List.drop_of_length_le (by omega), List.append_nil] at ho
      exact ho
set_option maxRecDepth 100000 in
set_option maxHeartbeats 1000000 in
theorem rename_nil (nb : Nat) (A : Option Addr) (c : Nat) (w : World) :
    Calls Try.prog 45 #[.slice A 0 c, .pointer (some ⟨nb, 0, none⟩)] w fun e w' => e = .returned (.tuple #[]) ∧ w.grownBy w' none := by
  go_enter Try.func45, Try.ntmps45
  go_wp2_with fail
  go_loopw [7] (fun i wr => i = .int .i64 0 ∧ w.grownBy wr none) (fun _ _ => 0)
  case atStart => exact ⟨rfl, ⟨rfl, rfl, rfl, Nat.le_refl _, fun _ _ _ => rfl⟩⟩
  case round =>
    obtain ⟨rfl, hg⟩ := hrel
    go_wp2_with fail
    go_end0
    exact ⟨rfl, hg⟩
theorem map_not {w : World} {b : Nat} {ks : List (Int × Int)} (h : MapAt w b ks) {T : TypeId} (hT : TypeB w b T) : False := by
  obtain ⟨es, c, h1, _⟩ := h
  obtain ⟨cur, f, h2⟩ := hT
  rw [h1] at h2
  cases h2
theorem rename_any (nb mb base t : Nat) (tg : Nat → Nat) (A : Option Addr) (n c : Nat) (f : Int → Int) (ks : List (Int × Int)) (xs : List Int) (w : World) (hN : w.cell? ⟨nb, 0, none⟩ = some (.map (some mb))) (hM : MapAt w mb ks) (hf : ∀ x ∈ xs, ∃ k', ks.find? (fun p => p.1 == x) = some (k', f x))
    (h : TabO w base tg t A n c xs) {T : TypeId} (hnb : TypeB w nb T) (hT : T ≠ 3) (hn : n ≤ 1000000) :
    Calls Try.prog 45 #[.slice A n c, .pointer (some ⟨nb, 0, none⟩)] w fun e w' => e = .returned (.tuple #[]) ∧ ∃ row, w.grownBy w' row ∧ (∀ b, row = some b → tg b = t ∧ TypeB w b 3 ∧ base ≤ b) ∧ TabO w' base tg t A n c (xs.map f) := by
  have nil : n = 0 → xs = [] → Calls Try.prog 45 #[.slice A n c, .pointer (some ⟨nb, 0, none⟩)] w fun e w' => e = .returned (.tuple #[]) ∧ ∃ row, w.grownBy w' row ∧ (∀ b, row = some b → tg b = t ∧ TypeB w b 3 ∧ base ≤ b) ∧ TabO w' base tg t A n c (xs.map f) := by
    intro h1 h2
    subst h1 h2
    exact (rename_nil nb A c w).mono fun e w' ⟨h1, h2⟩ => ⟨h1, none, h2, (fun b e => by cases e), h.kept h2 fun b e _ => by cases e⟩
  rcases h.2.2 with ⟨h1, h2, _⟩ | ⟨ho, ht⟩
  · exact nil h1 h2
  · have ho' := ho
    rcases ho.2 with ⟨hv, h0⟩ | ⟨g, cap, cur, hv, hbg, hg, hnc, hcm, hcs, htake⟩
    · simp only [Value.slice.injEq] at hv
      obtain ⟨_, h1, _⟩ := hv
      exact nil h1 (List.eq_nil_of_length_eq_zero (by have := ho'.1; simp [ints] at this; omega))
    · simp only [Value.slice.injEq] at hv
      obtain ⟨rfl, _, rfl⟩ := hv
      have hTg := own_block ho' rfl
      have e1 : nb ≠ g := hnb.ne hTg hT
      have e2 : mb ≠ g := fun e => map_not hM (e ▸ hTg)
      refine (rename_own nb mb base g n c f ks xs w hN hM hf ho' e1 e2 hn).mono fun e w' ⟨h1, h2, h3⟩ => ⟨h1, some g, h3, fun b e => ?_, h.1, h.2.1, .inr ⟨h2, ht⟩⟩
      injection e with e
      subst e
      exact ⟨ht g rfl, hTg, hbg⟩
end Go.Proofs.Ytmdjoafbckphfaa
