/- The plain model of writing. No conditions. -/
import Derived.Test.YtpboapeoejdipaaPureM3
namespace Sl
/-- A slot laid down where one is free, or behind all; none: no slot is left. -/
def laid (l : List Slot) (n : Nat) (s : Slot) : List Slot := if n = l.length then l ++ [s] else l.set n s
def entriesAt (m : Img) (k : Nat) : List Int := if 0 < int m.root k then tableAt m.slots (int m.root k) else [0, 0, 0, 0]
def tslot (t : List Int) : Slot := ⟨2, { data := #[] }, t⟩
def dslot (p : ByteArray) : Slot := ⟨1, p, []⟩
def ownT (m : Img) (k : Nat) : Bool := decide (0 < int m.root k) && int m.refs (int m.root k).toNat == 1
/-- The k-th table of an image has these entries then; none: no slot is left. -/
def putM (m : Img) (k : Nat) (t : List Int) : Option Img :=
  if t = entriesAt m k then some m
  else if bare t = true then some { m with root := m.root.set k 0 }
  else if ownT m k = true then some { m with slots := m.slots.set (int m.root k).toNat (tslot t) }
  else if grab m.slots = 0 then none
  else some { m with slots := laid m.slots (grab m.slots) (tslot t), root := m.root.set k (grab m.slots : Nat) }
def setM (m : Img) (n : Nat) (e : Int) : Option Img := putM m (n / 4) ((entriesAt m (n / 4)).set (n % 4) e)
/-- A page is written: at its place, where it is told once by a table that is told once; else into a new slot. -/
def writeM (m : Img) (n : Nat) (p : ByteArray) : Option Img :=
  let k := n / 4
  let e := entryOf m.slots m.root n
  if ownT m k = true ∧ 0 < e ∧ int m.refs e.toNat = 1 then some { m with slots := m.slots.set e.toNat { (m.slots.getD e.toNat freeSlot) with data := p } }
  else if ownT m k = true then
    (if grab m.slots = 0 then none
     else some { m with slots := (laid m.slots (grab m.slots) (dslot p)).set (int m.root k).toNat { ((laid m.slots (grab m.slots) (dslot p)).getD (int m.root k).toNat freeSlot) with table := (entriesAt m k).set (n % 4) (grab m.slots : Nat) } })
  else
    (if grab m.slots = 0 then none
     else if grab (laid m.slots (grab m.slots) (tslot [-1, 0, 0, 0])) = 0 then none
     else some { m with root := m.root.set k (grab m.slots : Nat),
                        slots := (laid (laid m.slots (grab m.slots) (tslot [-1, 0, 0, 0])) (grab (laid m.slots (grab m.slots) (tslot [-1, 0, 0, 0]))) (dslot p)).set (grab m.slots)
                          (tslot ((entriesAt m k).set (n % 4) (grab (laid m.slots (grab m.slots) (tslot [-1, 0, 0, 0])) : Nat))) })
def resizeM (m : Img) (g : Nat) : Option Img :=
  ((if 0 < g % 4 ∧ g / 4 < m.root.length then putM m (g / 4) ((entriesAt m (g / 4)).take (g % 4) ++ List.replicate (4 - g % 4) 0) else some m)).map
    (fun x => { x with guest := g, root := (x.root ++ List.replicate 16 0).take (wants g).toNat })
end Sl
