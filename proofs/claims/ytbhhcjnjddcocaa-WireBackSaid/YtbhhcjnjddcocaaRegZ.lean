/- The texts RegZ, RegZ2 in one. Conditions: as each says. -/
import Derived.StillTail
import Derived.Deep.RegionHeld
-- RegZ: A region that draws its order, loads cells and ends in a store to them: what the loads find is asked for only behind the operations ahead of number c. No conditions.
namespace Go
section
variable {P : Program} {ops : Array Oper} {Q : Exit → Act → World → Prop} {md : Region.Mode} {S : World → Prop} {c : Nat}
/-- Whatever order is picked from here on, and S holds behind every operation ahead of number c. -/
def wpAnyZ (P : Program) (md : Region.Mode) (ops : Array Oper) (Q : Exit → Act → World → Prop) (S : World → Prop) (c : Nat) : Nat → Array Bool → Act → World → Prop
  | 0, listed, a, w => Region.ready md ops listed = [] ∧ Q .normal a w
  | fuel + 1, listed, a, w =>
    (Region.ready md ops listed = [] → Q .normal a w) ∧
    ∀ i ∈ Region.ready md ops listed, wpOp P ops Q i (fun a' w' => (i < c → S w') ∧ wpAnyZ P md ops Q S c fuel (listed.setIfInBounds i true) a' w') a w
theorem wpAny_of_Z : ∀ (fuel : Nat) (listed : Array Bool) (a : Act) (w : World), wpAnyZ P md ops Q S c fuel listed a w → wpAny P md ops Q fuel listed a w
  | 0, _, _, _, h => h
  | fuel + 1, _, _, _, h => ⟨h.1, fun i hi => wpOp_mono (fun a' w' h' => wpAny_of_Z fuel _ a' w' h'.2) (h.2 i hi)⟩
/-- What has come up had nothing to wait for. -/
def Shuts (md : Region.Mode) (ops : Array Oper) (listed : Array Bool) : Prop := ∀ j oj, ops[j]? = some oj → listed.getD j false = true → ∀ e ∈ oj.after, Region.binds md e = true → listed.getD e.on false = true
theorem Shuts.none {n : Nat} : Shuts md ops (Array.replicate n false) := fun j _ _ h => by
  by_cases hj : j < n <;> simp [hj] at h
theorem Shuts.set {listed : Array Bool} (h : Shuts md ops listed) {i : Nat} (hi : i ∈ Region.ready md ops listed) : Shuts md ops (listed.setIfInBounds i true) := fun j oj hj hl e he hb => by
  refine getD_set_true ?_
  by_cases hij : i = j
  · subst hij
    obtain ⟨_, o, ho, hall⟩ := mem_ready.1 hi
    rw [hj] at ho
    injection ho with ho
    subst ho
    exact hall e he hb
  · rw [getD_set_ne false hij] at hl
    exact h j oj hj hl e he hb
/-- From i by way of these, each waiting for the one ahead of it, to z. -/
def Region.wayB (md : Region.Mode) (ops : Array Oper) : Nat → List Nat → Nat → Bool
  | i, [], z => Region.waitsFor md ops z i
  | i, j :: t, z => Region.waitsFor md ops j i && Region.wayB md ops j t z
theorem Shuts.no {listed : Array Bool} (h : Shuts md ops listed) : ∀ (t : List Nat) (i z : Nat), listed.getD i false = false → Region.wayB md ops i t z = true → z ∉ Region.ready md ops listed
  | [], i, z, h0, hw, hz => by
    obtain ⟨oz, h1, e, he, hb, rfl⟩ := Region.waitsFor_spec hw
    obtain ⟨_, o, ho, hall⟩ := mem_ready.1 hz
    rw [h1] at ho
    injection ho with ho
    subst ho
    rw [hall e he hb] at h0
    cases h0
  | j :: t, i, z, h0, hw, hz => by
    unfold Region.wayB at hw
    simp only [Bool.and_eq_true] at hw
    obtain ⟨oj, h1, e, he, hb, rfl⟩ := Region.waitsFor_spec hw.1
    refine h.no t j z ?_ hw.2 hz
    cases hl : listed.getD j false
    · rfl
    · rw [h j oj h1 hl e he hb] at h0
      cases h0
theorem wpAnyZ_first {i : Nat} {oi : Oper} {v : Value} (hi : ops[i]? = some oi) (hsel : ∀ (j : Nat) (o : Oper) cs b, ops[j]? = some o → o.op ≠ .select cs b)
    (hQ : ∀ c a w, Q (.panic c) (a.put oi.dst v) w → Q (.panic c) a w) (hway : ∀ z, c ≤ z → z < ops.size → ∃ t, Region.wayB md ops i t z = true) :
    ∀ (fuel : Nat) (listed : Array Bool) (a : Act) (w : World),
      (∀ j oj, ops[j]? = some oj → j ≠ i → listed.getD j true = false → (∀ e ∈ oj.after, Region.binds md e = true → e.on ≠ i) → oi.apart ops oj = true) →
      i ∈ Region.ready md ops listed → YieldsIf P ops S oi v a → S w → Shuts md ops listed → listed.getD i false = false →
      wpAnyZ P md ops Q S c fuel (listed.setIfInBounds i true) (a.put oi.dst v) w → wpAnyZ P md ops Q S c (fuel + 1) listed a w := by
  intro fuel
  induction fuel with
  | zero =>
    intro listed a w _ hr hy hS _ _ H
    refine ⟨fun h => (by rw [h] at hr; cases hr), fun j hj => ?_⟩
    by_cases hji : j = i
    · subst hji; exact hy.wpOp hi hS ⟨fun _ => hS, H⟩
    · have := ready_mono hj hji
      rw [H.1] at this
      cases this
  | succ fuel ih =>
    intro listed a w hfree hr hy hS hC hun0 H
    refine ⟨fun h => (by rw [h] at hr; cases hr), fun j hj => ?_⟩
    by_cases hji : j = i
    · subst hji; exact hy.wpOp hi hS ⟨fun _ => hS, H⟩
    · have h1 := H.2 j (ready_mono hj hji)
      obtain ⟨hjun, oj, hoj, hall⟩ := mem_ready.1 hj
      have hjc : j < c := by
        rcases Nat.lt_or_ge j c with h | h
        · exact h
        · obtain ⟨t, ht⟩ := hway j h (Array.getElem?_eq_some_iff.1 hoj).1
          exact absurd hj (hC.no t i j hun0 ht)
      have hnot : ∀ e ∈ oj.after, Region.binds md e = true → e.on ≠ i := fun e he hb heq => by
        have h1 := hall e he hb
        rw [heq, hun0] at h1
        cases h1
      have h2 := wpOp_putIf hoj (hfree j oj hoj hji hjun hnot) (fun cs b => hsel i oi cs b hi) (fun cs b => hsel j oj cs b hoj) hQ hy h1
      have hfree' : ∀ k ok, ops[k]? = some ok → k ≠ i → (listed.setIfInBounds j true).getD k true = false →
          (∀ e ∈ ok.after, Region.binds md e = true → e.on ≠ i) → oi.apart ops ok = true := fun k ok hk hki hun hno => by
        refine hfree k ok hk hki ?_ hno
        by_cases hjk : j = k
        · subst hjk; exact hjun
        · rw [getD_set_ne true hjk] at hun; exact hun
      refine wpOp_mono (fun a' w' h3 => ⟨h3.2.1, ih (listed.setIfInBounds j true) a' w' hfree' (ready_mono hr (Ne.symm hji)) h3.1 (h3.2.1 hjc) (hC.set hj) (by rw [getD_set_ne false hji]; exact hun0) ?_⟩) h2
      rw [Array.setIfInBounds_comm _ _ hji]
      exact h3.2.2
/-- Take number i first. -/
theorem wpAnyZ_take {i : Nat} {oi : Oper} {v : Value} {fuel : Nat} {listed : Array Bool} {a : Act} {w : World} (hi : ops[i]? = some oi)
    (hs : Region.noSelect ops = true) (hf : Region.free md ops listed i = true) (hr : (Region.ready md ops listed).contains i = true) (hu : listed.getD i false = false)
    (hw : ∀ z, c ≤ z → z < ops.size → ∃ t, Region.wayB md ops i t z = true)
    (hQ : ∀ c a w, Q (.panic c) (a.put oi.dst v) w → Q (.panic c) a w) (hy : YieldsIf P ops S oi v a) (hS : S w) (hC : Shuts md ops listed)
    (h : Shuts md ops (listed.setIfInBounds i true) → wpAnyZ P md ops Q S c fuel (listed.setIfInBounds i true) (a.put oi.dst v) w) : wpAnyZ P md ops Q S c (fuel + 1) listed a w :=
  wpAnyZ_first hi (Region.noSelect_spec hs) hQ hw fuel listed a w (Region.free_spec hi hf) (by simpa using hr) hy hS hC hu (h (hC.set (by simpa using hr)))
/-- Number i alone may come up. -/
theorem wpAnyZ_one {i : Nat} {o : Oper} {fuel : Nat} {listed : Array Bool} {a : Act} {w : World} (hr : Region.ready md ops listed = [i]) (ho : ops[i]? = some o)
    (h : ∀ K' : Act → World → Prop, Shut (∀ a w, (i < c → S w) → wpAnyZ P md ops Q S c fuel (listed.setIfInBounds i true) a w → K' a w) → if Region.wanted o (yielded ops a.tmps) = true then Oper.wp P o a w K' Q else K' (a.put o.dst undef) w) :
    wpAnyZ P md ops Q S c (fuel + 1) listed a w :=
  ⟨fun h0 => (by rw [hr] at h0; cases h0), fun j hj => by
    rw [hr] at hj
    obtain rfl : j = i := by simpa using hj
    exact wpOp_step ho (fun K' hK => h K' (fun a w hS hW => hK a w ⟨hS, hW⟩))⟩
theorem wpAnyZ_done {listed : Array Bool} {a : Act} {w : World} (hr : Region.ready md ops listed = []) (h : Q .normal a w) : ∀ fuel, wpAnyZ P md ops Q S c fuel listed a w
  | 0 => ⟨hr, h⟩
  | _ + 1 => ⟨fun _ => h, by rw [hr]; simp⟩
theorem wp_region_z {id : Nat} {a : Act} {w : World} (S : World → Prop) (c : Nat) (hm : P.follows .mixedOrders = true)
    (h : Shuts .any ops (Array.replicate ops.size false) → wpAnyZ P .any ops Q S c ops.size (Array.replicate ops.size false) a w.drew) : (Code.region id ops true).wp P Q a w :=
  wp_region_any hm (wpAny_of_Z (S := S) (c := c) _ _ _ _ (h Shuts.none))
end
end Go
-- RegZ2: Regions that draw their order (RegZ), where more than one operation may come up: each in turn. No conditions.
namespace Go
section
variable {P : Program} {ops : Array Oper} {Q : Exit → Act → World → Prop} {md : Region.Mode} {S : World → Prop} {c : Nat}
/-- Each of the operations 'rs' comes up next. -/
def EachZ (P : Program) (md : Region.Mode) (ops : Array Oper) (Q : Exit → Act → World → Prop) (S : World → Prop) (c fuel : Nat) (listed : Array Bool) (a : Act) (w : World) (rs : List Nat) : Prop :=
  ∀ i ∈ rs, wpOp P ops Q i (fun a' w' => (i < c → S w') ∧ wpAnyZ P md ops Q S c fuel (listed.setIfInBounds i true) a' w') a w
theorem EachZ.nil {fuel : Nat} {listed : Array Bool} {a : Act} {w : World} : EachZ P md ops Q S c fuel listed a w [] := fun _ h => by cases h
theorem EachZ.cons {fuel : Nat} {listed : Array Bool} {a : Act} {w : World} {i : Nat} {o : Oper} {rs : List Nat} (ho : ops[i]? = some o)
    (h : ∀ K' : Act → World → Prop, Shut (∀ a w, (i < c → S w) → wpAnyZ P md ops Q S c fuel (listed.setIfInBounds i true) a w → K' a w) → if Region.wanted o (yielded ops a.tmps) = true then Oper.wp P o a w K' Q else K' (a.put o.dst undef) w)
    (hs : EachZ P md ops Q S c fuel listed a w rs) : EachZ P md ops Q S c fuel listed a w (i :: rs) := fun j hj => by
  rcases List.mem_cons.1 hj with rfl | hj
  · exact wpOp_step ho (fun K' hK => h K' (fun a w hS hW => hK a w ⟨hS, hW⟩))
  · exact hs j hj
theorem wpAnyZ_each {fuel : Nat} {listed : Array Bool} {a : Act} {w : World} {rs : List Nat} (hr : Region.ready md ops listed = rs) (hne : rs ≠ [])
    (h : EachZ P md ops Q S c fuel listed a w rs) : wpAnyZ P md ops Q S c (fuel + 1) listed a w :=
  ⟨fun h0 => absurd (hr.symm.trans h0) hne, fun i hi => h i (by rw [← hr]; exact hi)⟩
end
end Go
