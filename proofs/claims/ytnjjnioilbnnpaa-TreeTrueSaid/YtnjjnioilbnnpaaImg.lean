/- Words for images in memory. No conditions. -/
import Derived.Test.YtnjjnioilbnnpaaBase
import Derived.Test.YtnjjnioilbnnpaaPureT
namespace Go.Proofs.Ytnjjnioilbnnpaa
open Go.RowKit Sl

/-- The slice values of an image: Root, Slots, Refs, Snaps. -/
structure IV where
  rA : Option Addr
  rn : Nat
  rc : Nat
  sA : Option Addr
  sn : Nat
  sc : Nat
  fA : Option Addr
  fn : Nat
  fc : Nat
  pA : Option Addr
  pn : Nat
  pc : Nat

structure SnapV (w : World) (B : Nat) (s : Snap) (A : Option Addr) (n c : Nat) : Prop where
  name : s.name.size ≤ 4611686018427387903
  len : n ≤ c
  cap : c ≤ 4611686018427387903
  root : Rd w B 1 A n (ints s.root)
/-- At the place ⟨b, o⟩ lies the snapshot s: its three cells, and its Root elsewhere. -/
def SnapAt (w : World) (B b o : Nat) (s : Snap) : Prop :=
  ∃ A n c, w.cell? ⟨b, o, none⟩ = some (.string s.name) ∧ w.cell? ⟨b, o + 1, none⟩ = some (.int .i64 s.guest) ∧ w.cell? ⟨b, o + 2, none⟩ = some (.slice A n c) ∧ SnapV w B s A n c
/-- The slice value '.slice A n c' holds the snapshots l. -/
def SnapsR (w : World) (B : Nat) (A : Option Addr) (n : Nat) (l : List Snap) : Prop :=
  l.length = n ∧ (0 < n → ∃ b o, A = some ⟨b, o, none⟩ ∧ b < B ∧ ∀ k s, l[k]? = some s → SnapAt w B b (o + k * 3) s)

section
variable {w w' : World} {B B' M n c k b o : Nat} {A : Option Addr} {l : List Snap} {s : Snap}
theorem SnapV.keep (h : SnapV w B s A n c) (hk : ∀ p : Addr, p.block < B → w'.cell? p = w.cell? p) : SnapV w' B s A n c := ⟨h.name, h.len, h.cap, h.root.keep hk⟩
theorem SnapV.more (h : SnapV w B s A n c) (hB : B ≤ B') : SnapV w B' s A n c := ⟨h.name, h.len, h.cap, h.root.more hB⟩
theorem SnapV.below (h : SnapV w B s A n c) (hb : Below M w w') (hM : B ≤ M) : SnapV w' B s A n c := ⟨h.name, h.len, h.cap, h.root.below hb hM⟩
theorem SnapAt.keep (h : SnapAt w B b o s) (ha : b < B) (hk : ∀ p : Addr, p.block < B → w'.cell? p = w.cell? p) : SnapAt w' B b o s := by
  obtain ⟨A, n, c, h0, h1, h2, hr⟩ := h
  exact ⟨A, n, c, by rw [hk _ ha]; exact h0, by rw [hk _ ha]; exact h1, by rw [hk _ ha]; exact h2, hr.keep hk⟩
theorem SnapAt.more (h : SnapAt w B b o s) (hB : B ≤ B') : SnapAt w B' b o s := by
  obtain ⟨A, n, c, h0, h1, h2, hr⟩ := h
  exact ⟨A, n, c, h0, h1, h2, hr.more hB⟩
theorem SnapsR.keep (h : SnapsR w B A n l) (hk : ∀ p : Addr, p.block < B → w'.cell? p = w.cell? p) : SnapsR w' B A n l :=
  ⟨h.1, fun hn => by
    obtain ⟨b, o, e, hb, hc⟩ := h.2 hn
    exact ⟨b, o, e, hb, fun j u hu => (hc j u hu).keep hb hk⟩⟩
theorem SnapsR.more (h : SnapsR w B A n l) (hB : B ≤ B') : SnapsR w B' A n l :=
  ⟨h.1, fun hn => by
    obtain ⟨b, o, e, hb, hc⟩ := h.2 hn
    exact ⟨b, o, e, by omega, fun j u hu => (hc j u hu).more hB⟩⟩
theorem SnapsR.below (h : SnapsR w B A n l) (hb : Below M w w') (hM : B ≤ M) : SnapsR w' B A n l := h.keep fun _ hp => hb.cell (by omega)
theorem SnapsR.at_ (h : SnapsR w B A n l) (hk : k < n) :
    ∃ b o s tA tn tc, A = some ⟨b, o, none⟩ ∧ b < B ∧ l[k]? = some s ∧ w.cell? ⟨b, o + k * 3, none⟩ = some (.string s.name) ∧ w.cell? ⟨b, o + k * 3 + 1, none⟩ = some (.int .i64 s.guest) ∧
      w.cell? ⟨b, o + k * 3 + 2, none⟩ = some (.slice tA tn tc) ∧ SnapV w B s tA tn tc := by
  obtain ⟨b, o, e, hb, hc⟩ := h.2 (by omega)
  have hl : k < l.length := by rw [h.1]; exact hk
  obtain ⟨tA, tn, tc, h0, h1, h2, h3⟩ := hc k _ (List.getElem?_eq_getElem hl)
  exact ⟨b, o, l[k], tA, tn, tc, e, hb, List.getElem?_eq_getElem hl, h0, h1, h2, h3⟩
theorem SnapsR.none_ : SnapsR w B A 0 [] := ⟨rfl, fun h => absurd h (by omega)⟩
end

/-- The image m, its slices read in blocks below B. -/
structure ImgR (w : World) (B : Nat) (v : IV) (m : Img) : Prop where
  root : Rd w B 1 v.rA v.rn (ints m.root)
  rle : v.rn ≤ v.rc
  rcap : v.rc ≤ 4611686018427387903
  slots : SlotsR w B v.sA v.sn m.slots
  sle : v.sn ≤ v.sc
  scap : v.sc ≤ 4611686018427387903
  refs : Rd w B 1 v.fA v.fn (ints m.refs)
  fle : v.fn ≤ v.fc
  fcap : v.fc ≤ 4611686018427387903
  snaps : SnapsR w B v.pA v.pn m.snaps
  ple : v.pn ≤ v.pc
  pcap : v.pc ≤ 4611686018427387903
section
variable {w w' : World} {B B' M : Nat} {v : IV} {m : Img}
theorem ImgR.keep (h : ImgR w B v m) (hk : ∀ p : Addr, p.block < B → w'.cell? p = w.cell? p) : ImgR w' B v m :=
  ⟨h.root.keep hk, h.rle, h.rcap, h.slots.keep hk, h.sle, h.scap, h.refs.keep hk, h.fle, h.fcap, h.snaps.keep hk, h.ple, h.pcap⟩
theorem ImgR.more (h : ImgR w B v m) (hB : B ≤ B') : ImgR w B' v m :=
  ⟨h.root.more hB, h.rle, h.rcap, h.slots.more hB, h.sle, h.scap, h.refs.more hB, h.fle, h.fcap, h.snaps.more hB, h.ple, h.pcap⟩
theorem ImgR.below (h : ImgR w B v m) (hb : Below M w w') (hM : B ≤ M) : ImgR w' B v m := h.keep fun _ hp => hb.cell (by omega)
theorem ImgR.next (h : ImgR w w.heap.size v m) (hb : Below w.heap.size w w') : ImgR w' w'.heap.size v m := (h.below hb (Nat.le_refl _)).more hb.size
theorem ImgR.box (h : ImgR w w.heap.size v m) (o : Obj) : ImgR (w.alloc o) (w.alloc o).heap.size v m := h.next ((Below.refl _ _).alloc (Nat.le_refl _) _)
theorem ImgR.slen (h : ImgR w B v m) : m.slots.length = v.sn := h.slots.1
theorem ImgR.plen (h : ImgR w B v m) : m.snaps.length = v.pn := h.snaps.1
theorem ImgR.rlen (h : ImgR w B v m) : m.root.length = v.rn := h.root.len
theorem ImgR.flen (h : ImgR w B v m) : m.refs.length = v.fn := h.refs.len
end
theorem below1 (w : World) (o : Obj) : Below w.heap.size w (w.alloc o) := (Below.refl _ _).alloc (Nat.le_refl _) _
theorem Rd.next {w w' : World} {size n : Nat} {A : Option Addr} {cs : List Value} (h : Rd w w.heap.size size A n cs) (hb : Below w.heap.size w w') : Rd w' w'.heap.size size A n cs := (Rd.below h hb (Nat.le_refl _)).more hb.size
end Go.Proofs.Ytnjjnioilbnnpaa
