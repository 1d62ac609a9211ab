/- The plain model of pages and flat images. No conditions. -/
import Derived.Test.YtnjjnioilbnnpaaPure
namespace Sl
def isPage (p : ByteArray) : Bool := p.size == 4
def pagesErr (l : List ByteArray) : Int := if 16 < l.length then 2 else if l.all isPage then 0 else 1
def zeroP : ByteArray := { data := #[0, 0, 0, 0] }
def noP : ByteArray := { data := #[] }
def flatReadE (l : List ByteArray) (n : Int) : Int := if pagesErr l = 0 then (if 0 ≤ n ∧ n < l.length then 0 else 3) else pagesErr l
def flatReadV (l : List ByteArray) (n : Int) : ByteArray := if flatReadE l n = 0 then l.getD n.toNat noP else noP
def flatWriteE (l : List ByteArray) (n : Int) (p : ByteArray) : Int := if flatReadE l n = 0 then (if p.size = 4 then 0 else 1) else flatReadE l n
def flatWriteV (l : List ByteArray) (n : Int) (p : ByteArray) : List ByteArray := if flatWriteE l n p = 0 then l.set n.toNat p else []
def flatResizeE (l : List ByteArray) (g : Int) : Int := if pagesErr l = 0 then (if 0 ≤ g ∧ g ≤ 16 then 0 else 3) else pagesErr l
def flatResizeV (l : List ByteArray) (g : Int) : List ByteArray := if flatResizeE l g = 0 then l.take g.toNat ++ List.replicate (g.toNat - l.length) zeroP else []
theorem pagesErr_many {l : List ByteArray} (h : 16 < l.length) : pagesErr l = 2 := by unfold pagesErr; rw [if_pos h]
theorem pagesErr_bad {l : List ByteArray} (h : l.length ≤ 16) (hp : l.all isPage = false) : pagesErr l = 1 := by unfold pagesErr; rw [if_neg (by omega), hp]; rfl
theorem pagesErr_ok {l : List ByteArray} (h : l.length ≤ 16) (hp : l.all isPage = true) : pagesErr l = 0 := by unfold pagesErr; rw [if_neg (by omega), hp]; rfl
theorem pagesErr_len {l : List ByteArray} (h : pagesErr l = 0) : l.length ≤ 16 ∧ l.all isPage = true := by
  unfold pagesErr at h
  split at h
  · omega
  · split at h
    · exact ⟨by omega, by assumption⟩
    · omega
def samePages (a b : List ByteArray) : Bool := a == b
end Sl
