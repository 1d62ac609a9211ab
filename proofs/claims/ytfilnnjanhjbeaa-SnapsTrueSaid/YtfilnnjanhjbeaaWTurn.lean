/- The desk's table and put. Conditions: the desk holds an image that is right. -/
import Derived.Test.YtfilnnjanhjbeaaWGrab
import Derived.Test.YtfilnnjanhjbeaaRepl
import Derived.Test.YtfilnnjanhjbeaaPureM
namespace Go.Proofs.Ytfilnnjanhjbeaa
open Go.RowKit Sl
section
variable {w w' : World} {base : Nat} {tg : Nat → Nat} {v : IV} {q : List SV} {p : List PV} {m : Img}
/-- Blocks of the tag 3 (nobody's) get another tag. -/
def mark (tg : Nat → Nat) (t : Nat) : Nat → Nat := fun g => if tg g = 3 then t else tg g
theorem TabO.marked {t n c s : Nat} {A : Option Addr} {xs : List Int} (h : TabO w base tg t A n c xs) (ht : t ≠ 3) : TabO w base (mark tg s) t A n c xs :=
  ⟨h.1, h.2.1, h.2.2.imp id fun ⟨ho, e⟩ => ⟨ho, fun b eb => by unfold mark; rw [e b eb, if_neg ht]⟩⟩
theorem TabO.given {n c s : Nat} {A : Option Addr} {xs : List Int} (h : TabO w base tg 3 A n c xs) : TabO w base (mark tg s) s A n c xs :=
  ⟨h.1, h.2.1, h.2.2.imp (fun hh => ⟨hh.1, hh.2.1, .inr (hh.2.2.resolve_left (by decide))⟩) fun ⟨ho, e⟩ => ⟨ho, fun b eb => by unfold mark; rw [e b eb, if_pos rfl]⟩⟩
theorem OwnI.marked (h : OwnI w base tg v q p m) (s : Nat) : OwnI w base (mark tg s) v q p m :=
  ⟨h.root.marked (by decide), h.refs.marked (by decide), h.slots, h.sle, h.scap, h.snaps, h.ple, h.pcap, h.hq, h.hp, fun k x hx => ⟨(h.tabs k x hx).1, (h.tabs k x hx).2.marked (by omega)⟩, fun k x hx => ⟨(h.roots k x hx).1, (h.roots k x hx).2.marked (by omega)⟩⟩
theorem DeskAt.marked {b : Nat} (h : DeskAt w base tg b v q p m) (s : Nat) : DeskAt w base (mark tg s) b v q p m := ⟨h.own.marked s, h.box, h.ty, h.lo⟩
theorem DeskAt.retag {b : Nat} {tg' : Nat → Nat} (h : DeskAt w base tg b v q p m) (ht : ∀ b, b < w.heap.size → tg' b = tg b) : DeskAt w base tg' b v q p m := ⟨h.own.retag ht, h.box, h.ty, h.lo⟩
/-- The k-th number of an own row of numbers is stored to. -/
theorem TabO.stored {t n c : Nat} {A : Option Addr} {xs : List Int} (h : TabO w base tg t A n c xs) {k : Nat} (hk : k < n) (y : Int) : ∃ b, A = some ⟨b, 0, none⟩ ∧ base ≤ b ∧ b < w.heap.size ∧ tg b = t ∧ TypeB w b 3 ∧
    (∃ x, xs[k]? = some x ∧ w.cell? ⟨b, k, none⟩ = some (.int .i64 x)) ∧ w.frozen? ⟨b, k, none⟩ = false ∧ TabO (w.setCell ⟨b, k, none⟩ (.int .i64 y)) base tg t A n c (xs.set k y) := by
  rcases h.2.2 with ⟨rfl, _⟩ | ⟨ho, ht⟩
  · omega
  · obtain ⟨b, rfl, h1, h2⟩ := own_some ho (by omega)
    obtain ⟨o1, g1⟩ := ho.stored k (.int .i64 y)
    have hr := (Rd.of_own ho).len
    have hx : k < xs.length := by omega
    refine ⟨b, rfl, h1, h2, ht b rfl, own_block ho rfl, ⟨xs[k], List.getElem?_eq_getElem hx, ?_⟩, ho.frozenAt k, h.1, h.2.1, .inr ⟨?_, ht⟩⟩
    · have := ho.cellAt k (by omega)
      rw [this]; simp [ints, List.getElem?_eq_getElem hx]
    · rw [show ints (xs.set k y) = (ints xs).set k (.int .i64 y) from by simp [ints, List.map_set]]; exact o1
/-- The k-th number of the Root is stored to. -/
theorem DeskAt.setRoot {b : Nat} (h : DeskAt w base tg b v q p m) {k : Nat} (hk : k < v.rn) (y : Int) : ∃ g, v.rA = some ⟨g, 0, none⟩ ∧ base ≤ g ∧ w.frozen? ⟨g, k, none⟩ = false ∧ (∃ x, w.cell? ⟨g, k, none⟩ = some (.int .i64 x)) ∧
    DeskAt (w.setCell ⟨g, k, none⟩ (.int .i64 y)) base tg b v q p { m with root := m.root.set k y } := by
  obtain ⟨g, hA, h1, h2, h3, h4, ⟨x, _, hx⟩, h6, h7⟩ := h.own.root.stored hk y
  have hg := grown_set w g k (.int .i64 y)
  have ht : ∀ {t n c : Nat} {A : Option Addr} {xs : List Int}, TabO w base tg t A n c xs → t ≠ 0 → TabO (w.setCell ⟨g, k, none⟩ (.int .i64 y)) base tg t A n c xs := fun hh hn => hh.kept hg fun b' e _ => by injection e with e; subst e; exact .inr (by omega)
  have hne : some b ≠ some g := fun e => h.ty.ty.ne h4 (by decide) (by injection e)
  exact ⟨g, hA, h1, h6, ⟨x, hx⟩, ⟨h7, ht h.own.refs (by decide), h.own.slots.kept hg (own_far h.own.slots h4 (by decide)), h.own.sle, h.own.scap, h.own.snaps.kept hg (own_far h.own.snaps h4 (by decide)), h.own.ple, h.own.pcap, h.own.hq, h.own.hp,
    fun k x hx => ⟨(h.own.tabs k x hx).1, ht (h.own.tabs k x hx).2 (by omega)⟩, fun k x hx => ⟨(h.own.roots k x hx).1, ht (h.own.roots k x hx).2 (by omega)⟩⟩, h.box.kept hg hne, h.ty.kept hg hne, h.lo⟩
end
/-- What a function that changes the desk's image answers: it is another, or no slot is left. -/
def TurnRes (base b : Nat) (o : Option Img) (w : World) (e : Ending) (w' : World) : Prop :=
  match o with
  | none => e = .panicked [{ v := fullV, recovered := false }] ∧ Below base w w'
  | some m2 => e = .returned (.tuple #[]) ∧ (∃ tg v q p, DeskAt w' base tg b v q p m2) ∧ Below base w w'
theorem root_facts {m : Img} (h : checkErr m = 0) {k : Nat} (hk : k < m.root.length) : int m.root k = 0 ∨ ∃ j s, int m.root k = (j : Nat) ∧ 1 ≤ j ∧ m.slots[j]? = some s ∧ s.kind = 2 ∧ s.table.length = 4 := by
  have hs := sound_of (check_is h).1
  have hw := (check_is h).1
  have hr := (shape_wired hw).roots m.root (List.mem_cons_self ..) (int m.root k) (by unfold int; rw [List.getD_eq_getElem?_getD, List.getElem?_eq_getElem hk]; exact List.getElem_mem _)
  refine hr.imp id fun h2 => ?_
  obtain ⟨j, e, h1, hl, hk2⟩ := kindOf_ge h2 (by decide)
  have hx := List.getElem?_eq_getElem hl
  rw [kindN_at hx] at hk2
  exact ⟨j, _, e, h1, hx, hk2, slot_table hs.slots hx hk2⟩
theorem rootOk_of {m : Img} (h : checkErr m = 0) {k : Nat} (hk : k < m.root.length) : RootOk m k :=
  (root_facts h hk).imp (fun e => by omega) (fun ⟨j, s, e, h1, hs, _, h4⟩ => ⟨j, s, e, h1, hs, h4⟩)
theorem refs_len {m : Img} (h : checkErr m = 0) : m.refs.length = m.slots.length := (sh_is (check_is h).1).1.refs
/-- The k-th table has these entries then. -/
def tableM (m : Img) (k : Nat) (t : List Int) : Option Img :=
  if ownT m k = true then some { m with slots := m.slots.set (int m.root k).toNat (tslot t) }
  else if grab m.slots = 0 then none
  else some { m with slots := laid m.slots (grab m.slots) (tslot t), root := m.root.set k (grab m.slots : Nat) }

theorem TurnRes.yes {base b : Nat} {o : Option Img} {m2 : Img} {w w' : World} {tg : Nat → Nat} {v : IV} {q : List SV} {p : List PV} (ho : o = some m2) (hd : DeskAt w' base tg b v q p m2) (hb : Below base w w') : TurnRes base b o w (.returned (.tuple #[])) w' := by
  subst ho; exact ⟨rfl, ⟨tg, v, q, p, hd⟩, hb⟩
theorem TurnRes.no {base b : Nat} {o : Option Img} {w w' : World} (ho : o = none) (hb : Below base w w') : TurnRes base b o w (.panicked [{ v := fullV, recovered := false }]) w' := by
  subst ho; exact ⟨rfl, hb⟩
theorem table_own {m : Img} {k j : Nat} {l : List Int} (hj : int m.root k = (j : Nat)) (h1 : 1 ≤ j) (hr : int m.refs j = 1) : tableM m k l = some { m with slots := m.slots.set j (tslot l) } := by
  unfold tableM ownT; rw [hj, Int.toNat_natCast, hr, decide_eq_true (by omega)]; rfl
theorem own_no0 {m : Img} {k : Nat} (hj : int m.root k = 0) : ownT m k = false := by unfold ownT; rw [hj]; rfl
theorem own_noj {m : Img} {k j : Nat} (hj : int m.root k = (j : Nat)) (hr : int m.refs j ≠ 1) : ownT m k = false := by
  unfold ownT; rw [hj, Int.toNat_natCast]; simp; intro _; exact hr
theorem table_full {m : Img} {k : Nat} {l : List Int} (ho : ownT m k = false) (hg : grab m.slots = 0) : tableM m k l = none := by unfold tableM; rw [ho, if_neg (by decide), if_pos hg]
theorem table_new {m : Img} {k : Nat} {l : List Int} (ho : ownT m k = false) (hg : grab m.slots ≠ 0) : tableM m k l = some { m with slots := laid m.slots (grab m.slots) (tslot l), root := m.root.set k (grab m.slots : Nat) } := by unfold tableM; rw [ho, if_neg (by decide), if_neg hg]
end Go.Proofs.Ytfilnnjanhjbeaa
