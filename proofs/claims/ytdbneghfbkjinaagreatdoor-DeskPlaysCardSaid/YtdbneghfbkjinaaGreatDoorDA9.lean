/- Texts of the proof of deskPlays_holds: PureS, PureV, DPure, Same. Conditions: as each text says. -/
import Derived.Test.YtdbneghfbkjinaaGreatDoorDA1
import Derived.Test.YtdbneghfbkjinaaGreatDoorDA8
import Derived.Lib.Strings
import Derived.Lib.ItoaNum
import Derived.Lib.AtoiTie
set_option maxRecDepth 100000
set_option maxHeartbeats 400000
namespace Sl
def toL (s:ByteArray):List UInt8:=s.data.toList
def ofL (l:List UInt8):ByteArray:=⟨l.toArray⟩
theorem aZ (l:List UInt8):toL (ofL l)=l:=by simp[toL,ofL]
theorem cW (s:ByteArray):ofL (toL s)=s:=by simp[toL,ofL]
theorem bv (s:ByteArray):(toL s).length=s.size:=by simp[toL]
theorem nJ {s t:ByteArray} (h:toL s=toL t):s=t:=by rw[<-cW s,h,cW]
end Sl
namespace Go.Proofs.YtdbneghfbkjinaaGreatDoor
section
open Sl
def az (n:Int):UInt8:=UInt8.ofNat (n%256).toNat
def bA (l:List Int):List UInt8:=l.map az
def eo (b:UInt8):Int:=if b=255 then-1 else(b.toNat:Int)
theorem iH {n:Nat} (h:n<256):(az (n:Int)).toNat=n:=by
 unfold az
 rw[show((n:Int)%256).toNat=n by omega,UInt8.toNat_ofNat']
 omega
theorem kF {n:Int} (h0:0<=n) (h:n<256):((az n).toNat:Int)=n:=by
 obtain⟨k,rfl⟩:=Int.eq_ofNat_of_zero_le h0
 rw[iH (by omega)]
theorem si {e:Int} (h1: -1<=e) (h2:e<255):eo (az e)=e:=by
 unfold eo
 by_cases h:e= -1
 ·subst h;decide
 ·have hn:az e≠255:= λhh=>by
   have:=kF (n:=e) (by omega) (by omega)
   rw[hh]at this
   have h3:((255:UInt8).toNat:Int)=255:=by decide
   omega
  rw[if_neg hn];exact kF (by omega) (by omega)
theorem nK {l:List Int} (h:∀e∈l,-1<=e/\e<255):(bA l).map eo=l:=by
 unfold bA
 rw[List.map_map]
 conv=>rhs;rw[<-List.map_id l]
 exact List.map_congr_left λe he=>si (h e he).1 (h e he).2
theorem dK (l:List Int):(bA l).length=l.length:=by simp[bA]
def cI (s:Slot):List UInt8:=az s.kind::(toL s.data++bA s.table)
def cJ (x:Snap):List UInt8:=az x.name.size::(toL x.name++az x.guest::bA x.root)
def ea (m:Img):List UInt8:=az m.guest::az m.slots.length::(m.slots.flatMap cI++az m.snaps.length::(m.snaps.flatMap cJ++bA m.root))
abbrev Rdr (α:Type):=List UInt8->Option (α×List UInt8)
def D0:Rdr Nat
 |[]=>none
 |b::r=>some (b.toNat,r)
def lB (n:Nat):Rdr (List UInt8):= λl=>if n<=l.length then some (l.take n,l.drop n)else none
def jq (n:Nat):Rdr (List Int):= λl=>if n<=l.length then some ((l.take n).map eo,l.drop n)else none
def cR:Rdr Slot
 |[]=>none
 |b::r=>
  if b.toNat=1 then(if 4<=r.length then some (⟨1,ofL (r.take 4),[]⟩,r.drop 4)else none)
  else if b.toNat=2 then(if 4<=r.length then some (⟨2,ByteArray.empty,(r.take 4).map eo⟩,r.drop 4)else none)
  else some (⟨(b.toNat:Int),ByteArray.empty,[]⟩,r)
def bm (g:Nat):Nat:=(g+3)/4
def eW:Rdr Snap
 |[]=>none
 |b::r=>
  if b.toNat<=r.length then
   match r.drop b.toNat with
   |[]=>none
   |g::r'=>if bm g.toNat<=r'.length then some (⟨ofL (r.take b.toNat),(g.toNat:Int),(r'.take (bm g.toNat)).map eo⟩,r'.drop (bm g.toNat))else none
  else none
def fg {α:Type} (p:Rdr α):Nat->Rdr (List α)
 |0,l=>some ([],l)
 |n+1,l=>match fg p n l with
  |none=>none
  |some (xs,r)=>match p r with
   |none=>none
   |some (x,r')=>some (xs++[x],r')
section
variable {α:Type} {p q:Rdr α} {B:α->List UInt8}
theorem xZ {n k:Nat} {l:List UInt8} (h:fg p n l=none) (hk:n<=k):fg p k l=none:=by
 induction k with
 |zero=>rw[show n=0 by omega]at h;exact h
 |succ k ih=>
  by_cases hn:n=k+1
  ·subst hn;exact h
  ·have:=ih (by omega);simp only[fg,this]
theorem Ap {n:Nat} {l:List UInt8} {xs:List α} {r:List UInt8} (h:fg p n l=some (xs,r)):xs.length=n:=by
 induction n generalizing xs r with
 |zero=>simp only[fg,Option.some.injEq,Prod.mk.injEq]at h;rw[<-h.1];rfl
 |succ n ih=>
  simp only[fg]at h
  split at h
  ·simp at h
  ·rename_i ys r1 h1
   split at h
   ·simp at h
   ·simp only[Option.some.injEq,Prod.mk.injEq]at h
    rw[<-h.1,List.length_append,ih h1];rfl
theorem pB {xs:List α} (hp:∀x∈xs,∀r,p (B x++r)=some (x,r)) (r:List UInt8) (k:Nat) (hk:k<=xs.length):fg p k (xs.flatMap B++r)=some (xs.take k,(xs.drop k).flatMap B++r):=by
 induction k with
 |zero=>rfl
 |succ k ih=>
  have hl:k<xs.length:=by omega
  simp only[fg,ih (by omega)]
  rw[List.drop_eq_getElem_cons hl,List.flatMap_cons,List.append_assoc,hp _ (List.getElem_mem hl)]
  simp only
  rw[List.take_add_one,List.getElem?_eq_getElem hl];rfl
end
def mK (l:List UInt8):Option (Img×List UInt8):=
 match l with
 |[]=>none
 |[_]=>none
 |g::n::l2=>match fg cR n.toNat l2 with
  |none=>none
  |some (_,[])=>none
  |some (ss,k::l3)=>match fg eW k.toNat l3 with
   |none=>none
   |some (ps,l4)=>if bm g.toNat<=l4.length then some (⟨(g.toNat:Int),(l4.take (bm g.toNat)).map eo,ss,List.replicate ss.length 0,ps⟩,l4.drop (bm g.toNat))else none
def ep (m:Img):Img:={m with refs:=aM m}
def eX (l:List UInt8):Option Img:=match mK l with
 |none=>none
 |some (m,r)=>if aB m=0/\r=[]/\ab (ep m)=0 then some (ep m)else none
section
variable {m:Img}
theorem DI {s:Slot} (h:aD s=true) (r:List UInt8):cR (cI s++r)=some (s,r):=by
 obtain⟨kind,data,table⟩:=s
 have empty {d:ByteArray} (hd:d.size=0):d=ByteArray.empty:=nJ (by
  have:(toL d).length=0:=by rw[bv];exact hd
  rw[List.eq_nil_of_length_eq_zero this];rfl)
 unfold aD at h
 dsimp only at h
 split at h
 ·rename_i h0
  simp only[Bool.and_eq_true,beq_iff_eq]at h
  have ht:=List.eq_nil_of_length_eq_zero h.2
  have hd:=empty h.1
  subst h0 ht hd
  rfl
 ·split at h
  ·rename_i h0 h1
   simp only[Bool.and_eq_true,beq_iff_eq]at h
   have ht:=List.eq_nil_of_length_eq_zero h.2
   subst h1 ht
   have h4:(toL data).length=4:=by rw[bv];exact h.1
   have hb:(az 1).toNat=1:=by decide
   simp only[cI,cR,bA,List.map_nil,List.append_nil,List.cons_append,hb,if_true]
   rw[if_pos (by rw[List.length_append];omega),List.take_append_of_le_length (by omega),List.drop_append_of_le_length (by omega),List.take_of_length_le (by omega),List.drop_of_length_le (by omega),cW];rfl
  ·split at h
   ·rename_i h0 h1 h2
    simp only[Bool.and_eq_true,beq_iff_eq]at h
    have hd:=empty h.1.1
    subst h2 hd
    have he:=h.1.2
    unfold ak at he
    split at he
    ·rename_i h4
     split at he
     ·rename_i hall
      have hf:∀e∈table,-1<=e/\e<255:= λe hm=>by
       have:=List.all_eq_true.1 hall e hm
       unfold cV at this
       simp only[Bool.and_eq_true,decide_eq_true_eq]at this;omega
      have hl:(bA table).length=4:=by rw[dK];exact h4
      have hb:(az 2).toNat=2:=by decide
      simp only[cI,cR,List.cons_append,hb]
      rw[if_neg (by decide),if_pos trivial,show toL ByteArray.empty=[]from rfl,List.nil_append]
      rw[if_pos (by rw[List.length_append];omega),List.take_append_of_le_length (by omega),List.drop_append_of_le_length (by omega),List.take_of_length_le (by omega),List.drop_of_length_le (by omega),nK hf];rfl
     ·simp at he
    ·simp at he
   ·simp at h
theorem nL {m:Img} (h:Sound m) {g:Int} {r:List Int} (hr:rootFine m.slots g r=true) (hg:a7 g=true) (hm:r∈am m):
  bm (az g).toNat=(bA r).length/\(bA r).map eo=r/\((az g).toNat:Int)=g:=by
 have h40:=(aJ h.slots).2
 unfold a7 at hg
 simp only[Bool.and_eq_true,decide_eq_true_eq]at hg
 have hgg:=kF (n:=g) hg.1 (by omega)
 unfold rootFine at hr
 simp only[Bool.and_eq_true,decide_eq_true_eq]at hr
 refine⟨?_,nK λe he=>?_,hgg⟩
 ·rw[dK]
  have:=hr.1
  unfold a6 at this
  unfold bm;omega
 ·obtain⟨q,hq,rfl⟩:∃q,q<r.length/\int r q=e:=by
   obtain⟨q,hq,rfl⟩:=List.mem_iff_getElem.1 he
   exact⟨q,hq,by unfold int;rw[List.getD_eq_getElem?_getD,List.getElem?_eq_getElem hq];rfl⟩
  rcases dn h.wired hm q with h0|h2
  ·omega
  ·obtain⟨k,e,k1,k2,_⟩:=bw h2 (by omega)
   omega
theorem DJ {x:Snap} (h:Sound m) (hx:x∈m.snaps) (r:List UInt8):eW (cJ x++r)=some (x,r):=by
 have hg:a7 x.guest=true:=by
  have:=h.guests;unfold aV at this;simp only[Bool.and_eq_true]at this
  exact List.all_eq_true.1 this.2 x hx
 have hr:rootFine m.slots x.guest x.root=true:=by
  have:=h.roots;unfold bU at this;simp only[Bool.and_eq_true]at this
  exact List.all_eq_true.1 this.2 x hx
 obtain⟨e1,e2,e3⟩:=nL h hr hg (List.mem_cons_of_mem _ (List.mem_map_of_mem hx))
 have hn:x.name.size<=8:=by
  obtain⟨k,hk,rfl⟩:=List.mem_iff_getElem.1 hx
  have:=upto_iff.1 h.names k hk
  unfold da bj at this
  rw[bY (List.getElem?_eq_getElem hk)]at this
  simp only[Bool.and_eq_true,decide_eq_true_eq]at this
  exact this.1.1.2
 have hb:(az (x.name.size:Int)).toNat=x.name.size:=iH (by omega)
 have hl:=bv x.name
 simp only[cJ,eW,List.cons_append,hb,List.append_assoc]
 rw[if_pos (by rw[List.length_append];omega)]
 rw[List.drop_append_of_le_length (by omega),List.drop_of_length_le (by omega),List.take_append_of_le_length (by omega),List.take_of_length_le (by omega),List.nil_append]
 simp only
 rw[if_pos (by rw[List.length_append];omega)]
 rw[e1,List.drop_append_of_le_length (by omega),List.drop_of_length_le (by omega),List.take_append_of_le_length (by omega),List.take_of_length_le (by omega),e2,e3,cW];rfl
theorem uM (h:Sound m):mK (ea m)=some ({m with refs:=List.replicate m.slots.length 0},[]):=by
 have h40:=aJ h.slots
 have h3:=(dj h.sizes).2.2
 have hg:a7 m.guest=true:=by have:=h.guests;unfold aV at this;simp only[Bool.and_eq_true]at this;exact this.1
 have hr:rootFine m.slots m.guest m.root=true:=by have:=h.roots;unfold bU at this;simp only[Bool.and_eq_true]at this;exact this.1
 obtain⟨e1,e2,e3⟩:=nL h hr hg (List.mem_cons_self ..)
 have hb1:(az (m.slots.length:Int)).toNat=m.slots.length:=iH (by omega)
 have hb2:(az (m.snaps.length:Int)).toNat=m.snaps.length:=iH (by omega)
 have i1:=pB (p:=cR) (B:=cI) (xs:=m.slots) (λx hx r=>DI (List.all_eq_true.1 (bR h.slots) x hx) r) (az m.snaps.length::(m.snaps.flatMap cJ++bA m.root)) m.slots.length (Nat.le_refl _)
 have i2:=pB (p:=eW) (B:=cJ) (xs:=m.snaps) (λx hx r=>DJ h hx r) (bA m.root) m.snaps.length (Nat.le_refl _)
 simp only[List.take_length,List.drop_length,List.flatMap_nil,List.nil_append]at i1 i2
 simp only[ea,mK,hb1,i1,hb2,i2]
 rw[if_pos (by omega)]
 simp only[e1,List.take_length,List.drop_length,e2,e3]
theorem ya (h:ab m=0):m.refs=aM m:=by
 have hs:=aq h
 have hl:=(dI hs.1).1.refs
 apply List.ext_getElem?
 intro k
 by_cases hk:k<m.slots.length
 ·have a:=List.getElem?_eq_getElem (show k<m.refs.length by omega)
  have b:=List.getElem?_eq_getElem (show k<(aM m).length by rw[cO];omega)
  have c:=List.getElem?_eq_getElem hk
  rw[a,b,(uz h a b c).1]
 ·rw[List.getElem?_eq_none (by omega),List.getElem?_eq_none (by rw[cO];omega)]
theorem sk (h:ab m=0):ep {m with refs:=List.replicate m.slots.length 0}=m:=by
 have:=ya h
 obtain⟨g,rt,ss,rf,ps⟩:=m
 dsimp only at this⊢
 unfold ep
 dsimp only
 rw[this];rfl
theorem pC (h:ab m=0):eX (ea m)=some m:=by
 have S:=ay (aq h).1
 unfold eX
 rw[uM S]
 dsimp only
 rw[sk h,if_pos ⟨S.zeros,rfl,h⟩]
end
theorem iI {α:Type} {f:α->List UInt8} {c:Nat} {l:List α} (h:∀x∈l,(f x).length<=c):(l.flatMap f).length<=l.length*c:=by
 induction l with
 |nil=>simp
 |cons a l ih=>
  have h1:=h a (List.mem_cons_self ..)
  have h2:=ih λx hx=>h x (List.mem_cons_of_mem _ hx)
  rw[List.flatMap_cons,List.length_append,List.length_cons,Nat.add_mul]
  omega
theorem gZ {s:Slot} (h:aD s=true):s.data.size<=4:=by
 unfold aD at h
 split at h
 ·simp only[Bool.and_eq_true,beq_iff_eq]at h;omega
 ·split at h
  ·simp only[Bool.and_eq_true,beq_iff_eq]at h;omega
  ·split at h
   ·simp only[Bool.and_eq_true,beq_iff_eq]at h;omega
   ·simp at h
theorem nM {m:Img} (S:Sound m) {k:Nat} {x:Snap} (hk:m.snaps[k]? =some x):x.name.size<=8:=by
 have:=upto_iff.1 S.names k (zl hk)
 unfold da bj at this
 rw[bY hk]at this
 simp only[Bool.and_eq_true,decide_eq_true_eq]at this
 exact this.1.1.2
theorem kG {m:Img} (h:ab m=0):(ea m).length<=1000:=by
 have S:=ay (aq h).1
 have hc:=S.cbd
 have h1:=iI (f:=cI) (c:=9) (l:=m.slots) λx hx=>by
  have:=gZ (List.all_eq_true.1 (bR S.slots) x hx)
  have:=hc.tables x hx
  simp only[cI,List.length_cons,List.length_append,bv,dK];omega
 have h2:=iI (f:=cJ) (c:=14) (l:=m.snaps) λx hx=>by
  have hn:x.name.size<=8:=by
   obtain⟨k,hk,rfl⟩:=List.mem_iff_getElem.1 hx
   have:=upto_iff.1 S.names k hk
   unfold da bj at this
   rw[bY (List.getElem?_eq_getElem hk)]at this
   simp only[Bool.and_eq_true,decide_eq_true_eq]at this
   exact this.1.1.2
  have:=hc.roots x hx
  simp only[cJ,List.length_cons,List.length_append,bv,dK];omega
 have h3:=hc.slots
 have h4:=hc.snaps
 have h5:=hc.root
 simp only[ea,List.length_cons,List.length_append,dK]
 omega
section
variable {g n k:UInt8} {l2 l3 l4:List UInt8} {ss:List Slot} {ps:List Snap}
theorem sm (h:fg cR n.toNat l2=none):eX (g::n::l2)=none:=by simp only[eX,mK,h]
theorem yb (h:fg cR n.toNat l2=some (ss,[])):eX (g::n::l2)=none:=by simp only[eX,mK,h]
theorem so (h:fg cR n.toNat l2=some (ss,k::l3)) (h2:fg eW k.toNat l3=none):eX (g::n::l2)=none:=by simp only[eX,mK,h,h2]
theorem uN (h:fg cR n.toNat l2=some (ss,k::l3)) (h2:fg eW k.toNat l3=some (ps,l4)) (h3:¬bm g.toNat<=l4.length):eX (g::n::l2)=none:=by
 simp only[eX,mK,h,h2,if_neg h3]
theorem Aq (h:fg cR n.toNat l2=some (ss,k::l3)) (h2:fg eW k.toNat l3=some (ps,l4)) (h3:bm g.toNat<=l4.length) {m:Img}
  (hm:m=⟨(g.toNat:Int),(l4.take (bm g.toNat)).map eo,ss,List.replicate ss.length 0,ps⟩):
  eX (g::n::l2)=if aB m=0/\l4.drop (bm g.toNat)=[]/\ab (ep m)=0 then some (ep m)else none:=by
 subst hm
 simp only[eX,mK,h,h2,if_pos h3]
theorem pD {α:Type} {p:Rdr α} {j:Nat} {l r r':List UInt8} {xs:List α} {x:α} (h:fg p j l=some (xs,r)) (hx:p r=some (x,r')):fg p (j+1) l=some (xs++[x],r'):=by
 simp only[fg,h,hx]
theorem pE {α:Type} {p:Rdr α} {j n:Nat} {l r:List UInt8} {xs:List α} (h:fg p j l=some (xs,r)) (hx:p r=none) (hn:j<n):fg p n l=none:=
 xZ (n:=j+1) (by simp only[fg,h,hx]) hn
theorem uO {l:List UInt8} {x:Slot} {r:List UInt8} (h:cR l=some (x,r)):x.data.size<=4:=by
 cases l with
 |nil=>simp[cR]at h
 |cons b l=>
  simp only[cR]at h
  split at h
  ·split at h
   ·simp only[Option.some.injEq,Prod.mk.injEq]at h
    rw[<-h.1]
    show(ofL (l.take 4)).size<=4
    rw[<-bv,aZ,List.length_take];omega
   ·simp at h
  ·split at h
   ·split at h
    ·simp only[Option.some.injEq,Prod.mk.injEq]at h
     rw[<-h.1];exact Nat.zero_le _
    ·simp at h
   ·simp only[Option.some.injEq,Prod.mk.injEq]at h
    rw[<-h.1];exact Nat.zero_le _
theorem yc {l:List UInt8} {x:Slot} {r:List UInt8} (h:cR l=some (x,r)):x.table.length<=4:=by
 cases l with
 |nil=>simp[cR]at h
 |cons b l=>
  simp only[cR]at h
  split at h
  ·split at h
   ·simp only[Option.some.injEq,Prod.mk.injEq]at h
    rw[<-h.1];exact Nat.zero_le _
   ·simp at h
  ·split at h
   ·split at h
    ·simp only[Option.some.injEq,Prod.mk.injEq]at h
     rw[<-h.1]
     show((l.take 4).map eo).length<=4
     rw[List.length_map,List.length_take];omega
    ·simp at h
   ·simp only[Option.some.injEq,Prod.mk.injEq]at h
    rw[<-h.1];exact Nat.zero_le _
theorem sq:eW []=none:=rfl
theorem su {b:UInt8} {r:List UInt8} (h:¬b.toNat<=r.length):eW (b::r)=none:=by simp only[eW];rw[if_neg h]
theorem sv {b:UInt8} {r:List UInt8} (h:b.toNat<=r.length) (h2:r.drop b.toNat=[]):eW (b::r)=none:=by simp only[eW];rw[if_pos h,h2]
theorem sw {b g:UInt8} {r r':List UInt8} (h:b.toNat<=r.length) (h2:r.drop b.toNat=g::r') (h3:¬bm g.toNat<=r'.length):eW (b::r)=none:=by simp only[eW];rw[if_pos h,h2];simp only;rw[if_neg h3]
theorem uP {b g:UInt8} {r r':List UInt8} (h:b.toNat<=r.length) (h2:r.drop b.toNat=g::r') (h3:bm g.toNat<=r'.length):eW (b::r)=some (⟨ofL (r.take b.toNat),(g.toNat:Int),(r'.take (bm g.toNat)).map eo⟩,r'.drop (bm g.toNat)):=by
 simp only[eW];rw[if_pos h,h2];simp only;rw[if_pos h3]
end
theorem aT (l:List UInt8):(ofL l).size=l.length:=by rw[<-bv,aZ]
theorem uQ (l:List UInt8) (n:Nat):(ofL l).extract 0 n=ofL (l.take n):=nJ (by rw[aZ];show toL _=_;unfold toL;rw[Lib.extract_data];simp[ofL])
theorem nN (l:List UInt8) (n:Nat):(ofL l).extract n (ofL l).size=ofL (l.drop n):=nJ (by rw[aZ,aT];unfold toL;rw[Lib.extract_data];simp[ofL,List.take_of_length_le])
theorem xe {s:ByteArray} (h:s.toList=[]):toL s=[]:=by rw[ByteArray.toList_eq]at h;exact h
theorem jT:(ofL []).toList.isEmpty=true:=by rw[ByteArray.toList_eq];rfl
end
section
open Sl
theorem sx (n:Nat):Lib.decDigits n=if n<10 then[UInt8.ofNat (48+n)]else Lib.decDigits (n/10)++[UInt8.ofNat (48+n%10)]:=by
 rw[Lib.decDigits]
 split<;>rfl
theorem jU {n:Nat} (h:n<10):Lib.decDigits n=[UInt8.ofNat (48+n)]:=by rw[sx,if_pos h]
theorem qS {n:Nat} (h:¬n<10):Lib.decDigits n=Lib.decDigits (n/10)++[UInt8.ofNat (48+n%10)]:=by rw[sx,if_neg h]
theorem ml {d:Nat} (h:d<10):(UInt8.ofNat (48+d)).toNat=48+d:=by rw[UInt8.toNat_ofNat'];omega
def bi (a:Nat) (l:List UInt8):Nat:=l.foldl (λa b=>10*a+(b.toNat-48)) a
def fH (b:UInt8):Bool:=decide (48<=b.toNat)&&decide (b.toNat<=57)
theorem xf (a:Nat) (l r:List UInt8):bi a (l++r)=bi (bi a l) r:=List.foldl_append ..
theorem gn (n:Nat):(Lib.decDigits n).all fH=true/\1<=(Lib.decDigits n).length/\bi 0 (Lib.decDigits n)=n:=by
 induction n using Nat.strongRecOn with
 |_ n ih=>
  by_cases h:n<10
  ·rw[jU h]
   have e:=ml h
   refine⟨?_,by simp,?_⟩
   ·simp only[List.all_cons,List.all_nil,Bool.and_true,fH,e,Bool.and_eq_true,decide_eq_true_eq];omega
   ·simp only[bi,List.foldl_cons,List.foldl_nil,e];omega
  ·rw[qS h]
   obtain⟨h1,h2,h3⟩:=ih (n/10) (by omega)
   have e:=ml (d:=n%10) (by omega)
   refine⟨?_,by rw[List.length_append];simp,?_⟩
   ·rw[List.all_append,h1]
    simp only[List.all_cons,List.all_nil,Bool.and_true,fH,e,Bool.true_and,Bool.and_eq_true,decide_eq_true_eq];omega
   ·rw[xf,h3]
    simp only[bi,List.foldl_cons,List.foldl_nil,e];omega
theorem Co (k:Nat):∀n:Nat,n<10^ (k+1)->(Lib.decDigits n).length<=k+1:=by
 induction k with
 |zero=>intro n h;rw[jU (by simpa using h)];simp
 |succ k ih=>
  intro n h
  by_cases h10:n<10
  ·rw[jU h10];simp
  ·rw[qS h10,List.length_append]
   have:=ih (n/10) (by rw[Nat.pow_succ]at h;omega)
   simp only[List.length_cons,List.length_nil];omega
theorem cS {n:Nat} (h:n<1000000000):(Lib.decDigits n).length<=9:=Co 8 n (by simpa using h)
def eD (l:List UInt8):Option Nat:=if l.length<=6/\Lib.decDigits (bi 0 l)=l then some (bi 0 l)else none
theorem jV {l:List UInt8} {n:Nat} (h:eD l=some n):l=Lib.decDigits n/\l.length<=6/\bi 0 l=n:=by
 unfold eD at h
 split at h
 ·rename_i hc
  injection h with h
  subst h
  exact⟨hc.2.symm,hc.1,rfl⟩
 ·cases h
theorem Ar {n:Nat} (h:(Lib.decDigits n).length<=6):eD (Lib.decDigits n)=some n:=by
 have e:=(gn n).2.2
 unfold eD
 rw[e,if_pos ⟨h,rfl⟩]
theorem pF (l:List UInt8) (a:Nat) (h:l.all fH=true):bi a l<(a+1)*10^ l.length:=by
 induction l generalizing a with
 |nil=>simp[bi]
 |cons b r ih=>
  simp only[List.all_cons,Bool.and_eq_true,fH,decide_eq_true_eq]at h
  have:=ih (10*a+(b.toNat-48)) (by simpa[fH]using h.2)
  show bi (10*a+(b.toNat-48)) r<_
  rw[List.length_cons,Nat.pow_succ,<-Nat.mul_assoc,Nat.mul_right_comm]
  refine Nat.lt_of_lt_of_le this (Nat.mul_le_mul_right _ ?_)
  omega
theorem Cp {l:List UInt8} {n:Nat} (h:eD l=some n):n<1000000:=by
 obtain⟨h1,h2,h3⟩:=jV h
 have:=pF l 0 (by rw[h1];exact(gn n).1)
 rw[h3]at this
 have h5:10^ l.length<=10^ 6:=Nat.pow_le_pow_right (by decide) h2
 have:(10:Nat)^ 6=1000000:=by decide
 omega
theorem sy {l:List UInt8} (h:l.all fH=true) (a:Nat):Lib.decFrom a l=some (bi a l):=by
 induction l generalizing a with
 |nil=>rfl
 |cons b r ih=>
  simp only[List.all_cons,Bool.and_eq_true]at h
  have hb:=h.1
  unfold fH at hb
  simp only[Bool.and_eq_true,decide_eq_true_eq]at hb
  have e:Lib.digitVal b=some (b.toNat-48):=by unfold Lib.digitVal;rw[if_pos hb]
  simp only[Lib.decFrom,e]
  rw[ih h.2]
  unfold bi
  rw[List.foldl_cons,Nat.mul_comm]
theorem As (l:List UInt8):(match Lib.atoiAll l with
  | .ok v=>if v<0\/6<l.length\/Lib.itoa v≠l then none else some v.toNat
  |_=>none)=eD l:=by
 cases hn:eD l with
 |some n=>
  obtain⟨h1,h2,h3⟩:=jV hn
  obtain⟨f1,f2,f3⟩:=gn n
  rw[<-h1]at f1 f2
  have ha:Lib.atoi l=some (n:Int):=by
   cases l with
   |nil=>simp at f2
   |cons b r=>
    have hb:fH b=true:=by simp only[List.all_cons,Bool.and_eq_true]at f1;exact f1.1
    unfold fH at hb
    simp only[Bool.and_eq_true,decide_eq_true_eq]at hb
    have n1:¬(b==45)=true:= λe=>by
     have:b=45:=by simpa using e
     subst this;revert hb;decide
    have n2:¬(b==43)=true:= λe=>by
     have:b=43:=by simpa using e
     subst this;revert hb;decide
    simp only[Lib.atoi,if_neg n1,if_neg n2,Lib.decNat,List.isEmpty_cons,Bool.false_eq_true,if_false]
    rw[sy f1,h3];rfl
  rw[Lib.atoiAll_short l (by omega),ha]
  simp only[Lib.NumEnd.ofOption]
  rw[if_neg]
  ·simp
  ·have e:Lib.itoa (n:Int)=l:=by unfold Lib.itoa;rw[if_neg (by omega),Int.toNat_natCast];exact h1.symm
   rintro (h|h|h)
   ·omega
   ·omega
   ·exact h e
 |none=>
  cases Lib.atoiAll l with
  |ok v=>
   simp only
   rw[if_pos]
   by_cases h0:v<0
   ·exact .inl h0
   by_cases h6:6<l.length
   ·exact .inr (.inl h6)
   refine .inr (.inr λh=>?_)
   unfold Lib.itoa at h
   rw[if_neg h0]at h
   have:=Ar (n:=v.toNat) (by rw[h];omega)
   rw[h,hn]at this
   cases this
  |_=>rfl
def aR:List UInt8->List UInt8×List UInt8×Bool
 |[]=>([],[],false)
 |b::r=>if b=32 then([],r,true)else(b::(aR r).1,(aR r).2.1,(aR r).2.2)
theorem xg {l:List UInt8} (h:∀b∈l,b≠32):aR l=(l,[],false):=by
 induction l with
 |nil=>rfl
 |cons b r ih=>
  have:=ih λx hx=>h x (List.mem_cons_of_mem _ hx)
  unfold aR
  rw[if_neg (h b (List.mem_cons_self ..)),this]
theorem xh {l:List UInt8} {k:Nat} (h:∀(j:Nat) b,j<k->l[j]? =some b->b≠32) (hk:l[k]? =some 32):aR l=(l.take k,l.drop (k+1),true):=by
 induction l generalizing k with
 |nil=>simp at hk
 |cons b r ih=>
  cases k with
  |zero=>
   simp only[List.getElem?_cons_zero,Option.some.injEq]at hk
   subst hk
   rfl
  |succ k=>
   have hb:=h 0 b (by omega) rfl
   have:=ih (k:=k) (λj x hj hx=>h (j+1) x (by omega) (by simpa using hx)) (by simpa using hk)
   unfold aR
   rw[if_neg hb,this]
   rfl
def gB (l:List UInt8):Int:=match eD l with
 |none=> -1
 |some n=>n
theorem At {l:List UInt8} (h:¬(1<=l.length/\l.length<=6)):gB l= -1:=by
 unfold gB
 cases hn:eD l with
 |none=>rfl
 |some n=>
  obtain⟨h1,h2,_⟩:=jV hn
  have:=(gn n).2.1
  rw[<-h1]at this
  omega
theorem Au {l:List UInt8} {k:Nat} {b:UInt8} (hb:l[k]? =some b) (h:fH b=false):gB l= -1:=by
 unfold gB
 cases hn:eD l with
 |none=>rfl
 |some n=>
  obtain⟨h1,_,_⟩:=jV hn
  have:=(gn n).1
  rw[<-h1]at this
  have:=List.all_eq_true.1 this b (List.mem_of_getElem? hb)
  rw[h]at this;cases this
theorem Av {l:List UInt8} (h:Lib.decDigits (bi 0 l)≠l):gB l= -1:=by
 unfold gB eD
 rw[if_neg (λhh=>h hh.2)]
theorem Aw {l:List UInt8} (h6:l.length<=6) (h:Lib.decDigits (bi 0 l)=l):gB l=(bi 0 l:Nat):=by
 unfold gB eD
 rw[if_pos ⟨h6,h⟩]
theorem Ax (l:List UInt8) (b:UInt8):bi 0 (l++[b])=10*bi 0 l+(b.toNat-48):=by rw[xf];rfl
theorem Cq {l:List UInt8} (h:l.all fH=true) (h6:l.length<=6):bi 0 l<1000000:=by
 have:=pF l 0 h
 have h5:10^ l.length<=10^ 6:=Nat.pow_le_pow_right (by decide) h6
 have:(10:Nat)^ 6=1000000:=by decide
 omega
def shB (b:UInt8):UInt8:=if b=0 then 46 else b
def cC (l:List UInt8):List UInt8:=l.map shB
end
section
open Go.Proofs.Tryz
open Go.RowKit Sl
theorem toList_inj {s t:ByteArray} (h:(s.toList==t.toList)=true):s=t:=by
 rw[beq_iff_eq,ByteArray.toList_eq,ByteArray.toList_eq]at h
 apply ByteArray.ext
 exact Array.toList_inj.1 h
theorem uR {α:Type} {a b:List α} (k:Nat) {s t:α} (ha:a[k]? =some s) (hb:b[k]? =some t) (hne:s≠t):a≠b:=by
 rintro rfl;rw[ha]at hb;exact hne (Option.some.inj hb)
theorem yd {α:Type} {a b:List α} (hl:a.length=b.length) (k:Nat) (hk:a.length<=k) (h:a.take k=b.take k):a=b:=by
 rw[List.take_of_length_le hk,List.take_of_length_le (by omega)]at h;exact h
theorem nO {α:Type} {a b:List α} {k:Nat} {s t:α} (ha:a[k]? =some s) (hb:b[k]? =some t) (hs:s=t) (h:a.take k=b.take k):a.take (k+1)=b.take (k+1):=by
 rw[List.take_add_one,List.take_add_one,ha,hb,h,hs]
theorem qT (A A2:Option Addr) (n n2 c c2:Nat) (l l2:List Int) (w:World) (h:Rd w w.heap.size 1 A n (ah l)) (h2:Rd w w.heap.size 1 A2 n2 (ah l2)) (hc:n<=4611686018427387903) (hc2:n2<=4611686018427387903):
  Calls prog 154 #[.slice A n c,.slice A2 n2 c2] w λe w'=>e=.returned (.bool (decide (l=l2)))/\Below w.heap.size w w':=by
 have hl:l.length=n:=by have:=h.1;simp[ah]at this;omega
 have hl2:l2.length=n2:=by have:=h2.1;simp[ah]at this;omega
 have L1:=zh hl
 have L2:=zh hl2
 clear hl hl2
 by_cases hnn:n=n2
 ·subst hnn
  go_enter func154,ntmps154
  go_wp2_with fail
  go_loopw [5] (λi wr=>∃k:Nat,k<=n/\i=.int .i64 k/\l.take k=l2.take k/\Below w.heap.size w wr) (λi _=>n-(intOf i).toNat)
  case atStart=>exact⟨0,Nat.zero_le _,rfl,rfl,Below.refl _ _⟩
  case round=>
   obtain⟨k,hkn,rfl,ha,hbw⟩:=hrel
   have HA:=zh ha
   clear ha
   by_cases hlt:k<n
   ·obtain⟨b,o,rfl,hb,hcell⟩:=(h.below hbw (Nat.le_refl _)).2 (by omega)
    obtain⟨b2,o2,rfl,hb2,hcell2⟩:=(h2.below hbw (Nat.le_refl _)).2 (by omega)
    have k1:k<l.length:=by rw[L1.o];exact hlt
    have k2:k<l2.length:=by rw[L2.o];exact hlt
    have c1:=hcell k (.int .i64 l[k]) (by simp[ah,k1])
    have c2:=hcell2 k (.int .i64 l2[k]) (by simp[ah,k2])
    have x1:l[k]? =some l[k]:=List.getElem?_eq_getElem k1
    have x2:l2[k]? =some l2[k]:=List.getElem?_eq_getElem k2
    generalize l[k]=s at c1 x1
    generalize l2[k]=s2 at c2 x2
    have X1:=zh x1
    have X2:=zh x2
    have i1:(0:Int)<=k:=by omega
    have i2:(k:Int)<n:=by omega
    clear x1 x2 hcell hcell2 k1 k2 h h2
    cases hp:(s !=s2)
    ·go_wp2_with fail
     go_quiet (fail)
     go_wp2_with fail
     go_roundw
     case rel=>exact⟨k+1,by omega,by go_num,nO X1.o X2.o (by simpa using hp) HA.o,⟨hbw.os,hbw.tape,hbw.output,hbw.size,hbw.block⟩⟩
     case measure=>simp[intOf];omega
    ·go_wp2_with fail
     go_quiet (fail)
     go_wp2_with fail
     go_ret
     exact⟨aH (decide_eq_false (uR k X1.o X2.o (by simpa using hp))),⟨hbw.os,hbw.tape,hbw.output,hbw.size,hbw.block⟩⟩
   ·go_wp2_with fail
    go_ret
    exact⟨aH (decide_eq_true (yd (by rw[L1.o,L2.o]) k (by rw[L1.o];omega) HA.o)),hbw⟩
 ·have g:((n:Int) !=n2)=true:=by simp;omega
  go_enter func154,ntmps154
  go_wp2_with fail
  go_ret
  exact⟨aH (decide_eq_false (by rintro rfl;exact hnn (by rw[<-L1.o,<-L2.o]))),Below.refl _ _⟩
end
end Go.Proofs.YtdbneghfbkjinaaGreatDoor
