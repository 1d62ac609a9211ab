/- flat.Write, flat.Resize, and the reference's. Conditions: the pages are read in blocks below the heap's size. -/
import Derived.Test.YtpboapeoejdipaaPages
import Derived.Test.YtpboapeoejdipaaMemA
namespace Go.Proofs.Ytpboapeoejdipaa
open Go.RowKit Sl

theorem own_some {w : World} {base size n c : Nat} {e : TypeId} {A : Option Addr} {xs : List Value} (h : w.ownsRow base e size (.slice A n c) n xs) (hn : 0 < n) : ∃ g, A = some ⟨g, 0, none⟩ ∧ base ≤ g ∧ g < w.heap.size := by
  rcases h.2 with ⟨hv, rfl⟩ | ⟨g, cap, cur, hv, hb, hh, _⟩
  · omega
  · simp only [Value.slice.injEq] at hv
    obtain ⟨rfl, _, _⟩ := hv
    exact ⟨g, rfl, hb, (Array.getElem?_eq_some_iff.1 hh).1⟩
/-- What a function answers that makes a slice of its own, and an error. -/
def OwnPair (base : Nat) (el : TypeId) (size : Nat) (xs : List Value) (er : Int) (w : World) (e : Ending) (w' : World) : Prop :=
  ∃ A n c, e = .returned (.tuple #[.slice A n c, .int .i64 er]) ∧ w'.ownsRow base el size (.slice A n c) n xs ∧ Below base w w' ∧ n ≤ c ∧ c ≤ maxLen
theorem OwnPair.mk_nil {base : Nat} {el : TypeId} {size : Nat} {xs : List Value} {er er' : Int} {w w' : World} (hx : xs = []) (he : er = er') (hb : Below base w w') : OwnPair base el size xs er w (.returned (.tuple #[.slice none 0 0, .int .i64 er'])) w' := by
  subst hx; subst he
  exact ⟨none, 0, 0, rfl, World.ownsRow_nil _ _ _ _, hb, Nat.le_refl _, by simp⟩

theorem flatWrite_no {l : List ByteArray} {n : Int} {p : ByteArray} (h : flatReadE l n ≠ 0) : flatWriteE l n p = flatReadE l n ∧ flatWriteV l n p = [] := by
  have : flatWriteE l n p = flatReadE l n := by unfold flatWriteE; rw [if_neg h]
  exact ⟨this, by unfold flatWriteV; rw [this, if_neg h]⟩
theorem flatWrite_form {l : List ByteArray} {n : Int} {p : ByteArray} (h : flatReadE l n = 0) (hp : p.size ≠ 4) : flatWriteE l n p = 1 ∧ flatWriteV l n p = [] := by
  have : flatWriteE l n p = 1 := by unfold flatWriteE; rw [if_pos h, if_neg hp]
  exact ⟨this, by unfold flatWriteV; rw [this, if_neg (by decide)]⟩
theorem flatWrite_ok {l : List ByteArray} {n : Int} {p : ByteArray} (h : flatReadE l n = 0) (hp : p.size = 4) : flatWriteE l n p = 0 ∧ flatWriteV l n p = l.set n.toNat p := by
  have : flatWriteE l n p = 0 := by unfold flatWriteE; rw [if_pos h, if_pos hp]
  exact ⟨this, by unfold flatWriteV; rw [this, if_pos rfl]⟩
theorem flatRead_is {l : List ByteArray} {n : Int} (h : flatReadE l n = 0) : pagesErr l = 0 ∧ 0 ≤ n ∧ n < l.length := by
  unfold flatReadE at h
  split at h
  · split at h
    · rename_i h1 h2; exact ⟨h1, h2.1, h2.2⟩
    · omega
  · rename_i h1; exact absurd h h1

set_option maxRecDepth 100000 in
set_option maxHeartbeats 400000 in
theorem fwrite_any (A : Option Addr) (n c : Nat) (l : List ByteArray) (x : Int) (p : ByteArray) (w : World) (h : StrsR w w.heap.size A n l) (hc : n ≤ 4611686018427387903) :
    Calls Try.prog 24 #[.slice A n c, .int .i64 x, .string p] w (OwnPair w.heap.size 9 1 ((flatWriteV l x p).map Value.string) (flatWriteE l x p) w) := by
  have HK := Lib.hid (fread_any A n c l x w h hc)
  by_cases he : flatReadE l x = 0
  · rw [he] at HK
    obtain ⟨e1, e2, e3⟩ := flatRead_is he
    obtain ⟨k, rfl⟩ := Int.eq_ofNat_of_zero_le e2
    have hln := h.len
    obtain ⟨l16, _⟩ := pagesErr_len e1
    by_cases hp : p.size = 4
    · have R := Lib.hid (flatWrite_ok he hp)
      have g4 : ((p.size : Int) != 4) = false := by simp [hp]
      have HC := Lib.hid (cloneStrs A n c _ w h.1 (oneCell_strs l) (by omega))
      have hkn : k < n := by omega
      clear h he e1 e2 e3 hp l16
      go_enter Try.func24, Try.ntmps24
      go_wp2_with fail
      refine HK.out.mono ?_
      rintro e w1 ⟨rfl, rfl⟩
      go_wp2_with fail
      refine HC.out.mono ?_
      rintro e w1 ⟨A1, c1, rfl, hown, hb, hc1, hc2⟩
      obtain ⟨g, rfl, hg1, hg2⟩ := own_some hown (by omega)
      have hx := hown.cellAt k (by omega)
      rw [List.getElem?_map, List.getElem?_eq_getElem (by omega)] at hx
      simp only [Option.map_some] at hx
      have hf := hown.frozenAt k
      have hst := hown.stored k (.string p)
      have HS := Lib.hid hst
      clear hst hown
      go_wp2_with fail
      go_ret2
      refine ⟨some ⟨g, 0, none⟩, n, c1, ?_, ?_, hb.setCell (by exact hg1) _, hc1, hc2⟩
      · rw [R.out.1]; rfl
      · rw [R.out.2, List.map_set, Int.toNat_natCast]; exact HS.out.1
    · have R := Lib.hid (flatWrite_form (p := p) he hp)
      have g4 : ((p.size : Int) != 4) = true := by simp; omega
      clear h he e1 e2 e3 hp hln
      go_enter Try.func24, Try.ntmps24
      go_wp2_with (go_at_call 57; refine HK.out.mono ?_; rintro e w1 ⟨rfl, rfl⟩)
      go_ret2
      exact OwnPair.mk_nil (by rw [R.out.2]; rfl) R.out.1 (Below.refl _ _)
  · have R := Lib.hid (flatWrite_no (p := p) he)
    have he' : (flatReadE l x != 0) = true := by simpa using he
    clear h he
    go_enter Try.func24, Try.ntmps24
    go_wp2_with (go_at_call 57; refine HK.out.mono ?_; rintro e w1 ⟨rfl, rfl⟩)
    go_ret2
    exact OwnPair.mk_nil (by rw [R.out.2]; rfl) R.out.1 (Below.refl _ _)
end Go.Proofs.Ytpboapeoejdipaa
