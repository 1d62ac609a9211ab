/- Texts of the proof of deskPlays_holds: WBegun, PureO, PureY, PureSnA, PureSn. Conditions: as each text says. -/
import Derived.Test.YtdbneghfbkjinaaGreatDoorDA1
import Derived.Test.YtdbneghfbkjinaaGreatDoorDA25
set_option maxRecDepth 100000
set_option maxHeartbeats 400000
namespace Go.Proofs.YtdbneghfbkjinaaGreatDoor
section
open Sl
structure WOk (m y:Img) (n:Nat) (pg:ByteArray):Prop where
 right:ab y=0
 guest:y.guest=m.guest
 snaps:y.snaps=m.snaps
 new:cH y y.root n=pg
 else_:∀i,i≠n->cH y y.root i=cH m m.root i
 past:∀s∈m.snaps,∀i,cH y s.root i=cH m s.root i
theorem WEff.ok {m x:Img} {n:Nat} {pg:ByteArray} (h:WEff m x n pg):WOk m (ap x) n pg:=by
 have hr:(ap x).root=x.root:=rfl
 refine⟨ft h.sound,h.guest,h.snaps,?_,λi hi=>?_,λs hs i=>?_⟩
 ·rw[hr,dZ h.sound (cy x)];exact h.new
 ·rw[hr,dZ h.sound (cy x)];exact h.else_ i hi
 ·rw[dZ h.sound (fG (by rw[h.snaps];exact hs))];exact h.past s hs i
theorem nZ {o:Option Img} (h:iM o=0):∃x,o=some x:=by
 cases o with
 |none=>exact absurd h (by decide)
 |some x=>exact⟨x,rfl⟩
theorem yJ {m:Img} {n:Int} {pg:ByteArray} (h:dE m n pg=0):∃k:Nat,∃x,n=(k:Nat)/\(k:Int)<m.guest/\pg.size=4/\ab m=0/\cv m k pg=some x/\eP m n pg=ap x/\WOk m (ap x) k pg/\Am x k/\Sound x/\(ap x).slots.length<=m.slots.length+2:=by
 unfold dE at h
 split at h
 ·rename_i he
  split at h
  ·rename_i hp
   obtain⟨hm,h0,hn⟩:=dm he
   obtain⟨k,rfl⟩:=Int.eq_ofNat_of_zero_le h0
   obtain⟨x,hx⟩:=nZ h
   rw[Int.toNat_natCast]at hx
   obtain⟨⟨E,A⟩,hl⟩:=il hm (iF hm hn) hn hp hx
   exact⟨k,x,rfl,hn,hp,hm,hx,by unfold eP;rw[if_pos ⟨he,hp⟩,Int.toNat_natCast,hx];rfl,E.ok,A,E.sound,by rw[bS];exact hl⟩
  ·omega
 ·contradiction
theorem CA {m x:Img} {k:Nat} {t:List Int} (h:fT m k t=some x):x.slots.length<=m.slots.length+1:=by
 unfold fT at h
 split at h
 ·injection h with h;rw[<-h];omega
 ·split at h
  ·injection h with h;rw[<-h];exact Nat.le_succ _
  ·split at h
   ·injection h with h;rw[<-h];simp
   ·split at h
    ·cases h
    ·injection h with h;rw[<-h];dsimp only;rw[df];split<;>omega
theorem CB {m:Img} {n e:Int} (hf:cV e=true) (h0:e<=0) (h:fm m n e=0):∃k:Nat,∃x,n=(k:Nat)/\(k:Int)<m.guest/\ab m=0/\dP m k e=some x/\iu m n e=ap x/\WOk m (ap x) k ng/\Sound x/\(ap x).slots.length<=m.slots.length+1:=by
 unfold fm at h
 split at h
 ·rename_i he
  obtain⟨hm,h1,hn⟩:=dm he
  obtain⟨k,rfl⟩:=Int.eq_ofNat_of_zero_le h1
  obtain⟨x,hx⟩:=nZ h
  rw[Int.toNat_natCast]at hx
  have E:=qP hm (iF hm hn) hn hf h0 hx
  exact⟨k,x,rfl,hn,hm,hx,by unfold iu;rw[if_pos he,Int.toNat_natCast,hx];rfl,E.ok,E.sound,by rw[bS];exact CA hx⟩
 ·contradiction
structure ROk (m y:Img) (g:Nat):Prop where
 right:ab y=0
 guest:y.guest=(g:Nat)
 snaps:y.snaps=m.snaps
 pages:∀i,i<g->cH y y.root i=cH m m.root i
 past:∀s∈m.snaps,∀i,cH y s.root i=cH m s.root i
theorem vy {m:Img} {g:Int} (h:dG m g=0):∃k:Nat,∃x,g=(k:Nat)/\k<=16/\ab m=0/\bW m k=some x/\eQ m g=ap x/\ROk m (ap x) k/\Sound x:=by
 unfold dG at h
 split at h
 ·rename_i hm
  split at h
  ·rename_i hg
   obtain⟨k,rfl⟩:=Int.eq_ofNat_of_zero_le hg.1
   obtain⟨x,hx⟩:=nZ h
   rw[Int.toNat_natCast]at hx
   have E:=iG hm (by omega) hx
   have hr:(ap x).root=x.root:=rfl
   refine⟨k,x,rfl,by omega,hm,hx,by unfold eQ;rw[if_pos ⟨hm,hg⟩,Int.toNat_natCast,hx];rfl,⟨ft E.sound,E.guest,E.snaps,λi hi=>?_,λs hs i=>?_⟩,E.sound⟩
   ·rw[hr,dZ E.sound (cy x)];exact E.pages i hi
   ·rw[dZ E.sound (fG (by rw[E.snaps];exact hs))];exact E.past s hs i
  ·omega
 ·contradiction
theorem n0 {m:Img} {n:Int} {pg:ByteArray} (h:dE m n pg=0):ab (eP m n pg)=0/\(eP m n pg).slots.length<=m.slots.length+2:=by
 obtain⟨k,x,_,_,_,_,_,e,o,_,_,l⟩:=yJ h
 rw[e];exact⟨o.right,l⟩
theorem iw {m:Img} {n e:Int} (hf:cV e=true) (h0:e<=0) (h:fm m n e=0):ab (iu m n e)=0/\(iu m n e).slots.length<=m.slots.length+1:=by
 obtain⟨k,x,_,_,_,_,e',o,_,l⟩:=CB hf h0 h
 rw[e'];exact⟨o.right,l⟩
theorem n7 {m:Img} {g:Int} (h:dG m g=0):ab (eQ m g)=0/\(eQ m g).guest=g:=by
 obtain⟨k,x,e0,_,_,_,e,o,_⟩:=vy h
 rw[e];exact⟨o.right,by rw[o.guest,e0]⟩
end
section
open Sl
theorem n8 {p q:Nat->Bool} {F:Nat} (hq:∀j,q j=(p j||j==F)) (hp:p F=false):∀N,(List.range N).countP q=(List.range N).countP p+(if F<N then 1 else 0)
 |0=>rfl
 |N+1=>by
  have ih:=n8 hq hp N
  rw[List.range_succ,List.countP_append,List.countP_append,ih]
  simp only[List.countP_cons,List.countP_nil]
  by_cases e:N=F
  ·subst e
   rw[hq,hp]
   simp
  ·rw[hq,show(N==F)=false from by simpa using e,Bool.or_false]
   by_cases h:F<N
   ·have h1:F<N+1:=by omega
    simp only[if_pos h,if_pos h1];omega
   ·have h1:¬F<N+1:=by omega
    simp only[if_neg h,if_neg h1];omega
def dct (N:Nat) (l:List Int):Nat:=(List.range N).countP (λ(j:Nat)=>decide (0<j/\(j:Int)∈l))
theorem DX {N F p:Nat} {l:List Int} (hp:p<l.length) (h:int l p<=0\/ ∃i,i≠p/\i<l.length/\int l i=int l p) (hF:0<F) (hN:F<N) (hn:(F:Int)∉l):dct N (l.set p (F:Nat))=dct N l+1:=by
 unfold dct
 rw[n8 (p:= λ(j:Nat)=>decide (0<j/\(j:Int)∈l)) (F:=F) (λj=>?_) (by simp[hn]) N,if_pos hN]
 rw[Bool.eq_iff_iff]
 simp only[decide_eq_true_eq,Bool.or_eq_true,beq_iff_eq]
 constructor
 ·rintro ⟨h1,h2⟩
  rcases List.mem_or_eq_of_mem_set h2 with h3|h3
  ·exact .inl ⟨h1,h3⟩
  ·exact .inr (by omega)
 ·rintro (⟨h1,h2⟩|rfl)
  ·refine⟨h1,?_⟩
   obtain⟨i,hi⟩:=List.mem_iff_getElem?.1 h2
   have hil:=(zl hi)
   by_cases hip:i=p
   ·subst hip
    have hv:int l i=j:=by unfold int;rw[List.getD_eq_getElem?_getD,hi];rfl
    rcases h with h0|⟨i',n1,n2,n3⟩
    ·omega
    ·refine List.mem_of_getElem? (i:=i') ?_
     rw[List.getElem?_set_ne (λe=>n1 e.symm)]
     exact fF (n3.trans hv) (by omega)
   ·exact List.mem_of_getElem? (i:=i) (by rw[List.getElem?_set_ne (λe=>hip e.symm)];exact hi)
  ·exact⟨hF,List.mem_of_getElem? (i:=p) (by rw[List.getElem?_set_self hp])⟩
theorem sU {m:Img} (hm:ab m=0) {j:Nat} (hj:j<m.slots.length):cnt m j=0↔br m.slots j=0:=by
 have:=(aq hm).2 j hj
 unfold dS at this
 simp only[Bool.and_eq_true,beq_iff_eq,lj hj]at this
 have h2:=this.2
 constructor
 ·intro h
  rw[h]at h2
  simpa using h2.symm
 ·intro h
  rw[h]at h2
  have:((cnt m j:Nat):Int)=0:=by simpa using h2
  omega
theorem mP {r:List Int} {x:Int} (h:x∈r):∃q,q<r.length/\int r q=x:=by
 obtain⟨q,hq⟩:=List.mem_iff_getElem?.1 h
 exact⟨q,(zl hq),by unfold int;rw[List.getD_eq_getElem?_getD,hq];rfl⟩
theorem lL {l:List Slot} (h:ar l=0):br l 0=0:=by
 have:=gA h
 cases l with
 |nil=>rfl
 |cons a t=>exact this
end
section
open Sl
theorem kR {m:Img} {name:ByteArray} (h:bJ m name=0):ab m=0:=by
 unfold bJ at h
 split at h
 ·assumption
 ·exact h
end
section
open Sl
theorem pW:∀s:List UInt8,eu s s=false
 |[]=>rfl
 |a::s=>by simp[eu,pW s]
theorem gT:∀a b c:List UInt8,eu a b=true->eu b c=true->eu a c=true
 |[],[],_,h,_=>by simp[eu]at h
 |[],_::_,[],_,h=>by simp[eu]at h
 |[],_::_,_::_,_,_=>rfl
 |_::_,[],_,h,_=>by simp[eu]at h
 |_::_,_::_,[],_,h=>by simp[eu]at h
 |x::a,y::b,z::c,h,h'=>by
  simp only[eu,Bool.or_eq_true,decide_eq_true_eq,Bool.and_eq_true,beq_iff_eq]at h h'⊢
  rcases h with h|⟨rfl,h⟩
  ·rcases h' with h'|⟨rfl,h'⟩
   ·exact .inl (by omega)
   ·exact .inl h
  ·rcases h' with h'|⟨rfl,h'⟩
   ·exact .inl h'
   ·exact .inr ⟨rfl,gT a b c h h'⟩
def fU (l:List Snap):Prop:=l.Pairwise (λa b=>bI a.name b.name=true)
theorem names_iff {l:List Snap}:cq l=true↔(∀s∈l,bj s.name=true)/\fU l:=by
 unfold cq
 rw[upto_iff]
 constructor
 ·intro h
  refine⟨λs hs=>?_,?_⟩
  ·obtain⟨k,hk,rfl⟩:=List.mem_iff_getElem.1 hs
   have h1:=h k hk
   unfold da at h1
   rw[bY (List.getElem?_eq_getElem hk),Bool.and_eq_true]at h1
   exact h1.1
  ·have key:∀d i,i+d+1<l.length->bI (eF l i).name (eF l (i+d+1)).name=true:=by
    intro d
    induction d with
    |zero=>
     intro i hi
     have h1:=h (i+1) (by omega)
     unfold da at h1
     rw[Bool.and_eq_true,Bool.or_eq_true]at h1
     rcases h1.2 with h2|h2
     ·simp at h2
     ·exact h2
    |succ d ih=>
     intro i hi
     have h1:=h (i+(d+1)+1) (by omega)
     unfold da at h1
     rw[Bool.and_eq_true,Bool.or_eq_true]at h1
     rcases h1.2 with h2|h2
     ·simp at h2
     ·rw[show i+(d+1)+1-1=i+d+1 from by omega]at h2
      exact gT _ _ _ (ih i (by omega)) h2
   unfold fU
   rw[List.pairwise_iff_getElem]
   intro i j hi hj hij
   have h1:=key (j-i-1) i (by omega)
   rw[show i+(j-i-1)+1=j from by omega,bY (List.getElem?_eq_getElem hi),bY (List.getElem?_eq_getElem hj)]at h1
   exact h1
 ·rintro ⟨h1,h2⟩ k hk
  unfold da
  rw[Bool.and_eq_true,Bool.or_eq_true,bY (List.getElem?_eq_getElem hk)]
  refine⟨h1 _ (List.getElem_mem hk),?_⟩
  rcases Nat.eq_zero_or_pos k with h0|h0
  ·exact .inl (by subst h0;rfl)
  ·refine .inr ?_
   rw[bY (List.getElem?_eq_getElem (show k-1<l.length by omega))]
   exact List.pairwise_iff_getElem.1 h2 (k-1) k (by omega) hk (by omega)
def ca (l:List Snap) (name:ByteArray):Nat:=bn (λs=> !bI s.name name) l
def oW (l:List Snap) (x:Snap):List Snap:=l.take (ca l x.name)++x::l.drop (ca l x.name)
theorem mZ (l:List Snap) (name:ByteArray):ca l name<=l.length:=uw _ _
theorem iN {l:List Snap} {name:ByteArray} {j:Nat} {s:Snap} (hj:j<ca l name) (hs:l[j]? =some s):bI s.name name=true:=by
 have:=jj _ l j s hj hs
 simpa using this
theorem ka {l:List Snap} {name:ByteArray} (S:fU l) {j:Nat} {s:Snap} (hj:ca l name<=j) (hs:l[j]? =some s):bI s.name name=false:=by
 have hjl:=(zl hs)
 have hk:ca l name<l.length:=by omega
 have h0:bI l[ca l name].name name=false:=by
  have:=nE (λs:Snap=> !bI s.name name) l l[ca l name] (List.getElem?_eq_getElem hk)
  simpa using this
 rcases Nat.lt_or_ge (ca l name) j with h|h
 ·have h1:=List.pairwise_iff_getElem.1 S (ca l name) j hk hjl h
  rw[List.getElem?_eq_getElem hjl]at hs
  injection hs with hs
  rw[hs]at h1
  cases h2:bI s.name name
  ·rfl
  ·rw[show bI l[ca l name].name name=true from gT _ _ _ h1 h2]at h0;cases h0
 ·have e:ca l name=j:=by omega
  rw[<-e,List.getElem?_eq_getElem hk]at hs
  injection hs with hs
  rw[<-hs];exact h0
theorem named_iff {name:ByteArray} {s:Snap}:named name s=true↔s.name.toList=name.toList:=by unfold named;exact beq_iff_eq
theorem Bb {name:ByteArray} {s:Snap} (h:named name s=true):bI s.name name=false:=by
 unfold bI;rw[named_iff.1 h];exact pW _
theorem mu {l:List Snap} {name:ByteArray} (S:fU l) {j:Nat} {s:Snap} (hs:l[j]? =some s) (hn:named name s=true):ca l name=j:=by
 have hjl:=(zl hs)
 rcases Nat.lt_or_ge j (ca l name)with h|h
 ·have:=iN h hs
  rw[Bb hn]at this;cases this
 ·rcases Nat.lt_or_ge (ca l name) j with h2|h2
  ·have hk:ca l name<l.length:=by omega
   have h1:=List.pairwise_iff_getElem.1 S (ca l name) j hk hjl h2
   rw[List.getElem?_eq_getElem hjl]at hs
   injection hs with hs
   rw[hs]at h1
   have h3:=ka S (Nat.le_refl _) (List.getElem?_eq_getElem hk) (name:=name)
   unfold bI at h1 h3
   rw[named_iff.1 hn]at h1
   rw[h1]at h3;cases h3
  ·omega
theorem CC {l:List Snap} {name:ByteArray} (S:fU l) {j:Nat} {s:Snap} (hs:l[j]? =some s) (hn:named name s=true):bn (named name) l=j/\ca l name=j:=by
 have e:=mu S hs hn
 refine⟨jb _ _ j s hs hn (List.all_eq_true.2 λt ht=>?_),e⟩
 obtain⟨i,hi,rfl⟩:=List.mem_iff_getElem.1 ht
 rw[List.length_take]at hi
 have h1:l[i]? =some (l.take j)[i]:=by rw[<-List.getElem?_eq_getElem,List.getElem?_take_of_lt (by omega)]
 cases hh:named name (l.take j)[i]
 ·rfl
 ·have:=mu S h1 hh;have:=hi;omega
theorem sV {l:List Snap} {name:ByteArray} (S:fU l):l.any (named name)=true↔ ∃s,l[ca l name]? =some s/\named name s=true:=by
 rw[List.any_eq_true]
 constructor
 ·rintro ⟨s,hs,hn⟩
  obtain⟨j,hj,rfl⟩:=List.mem_iff_getElem.1 hs
  have hx:=List.getElem?_eq_getElem hj
  exact⟨_,by rw[mu S hx hn];exact hx,hn⟩
 ·rintro ⟨s,hs,hn⟩;exact⟨s,List.mem_of_getElem? hs,hn⟩
theorem put_mem {l:List Snap} {x s:Snap}:s∈oW l x↔s=x\/s∈l:=by
 unfold oW
 rw[List.mem_append,List.mem_cons]
 constructor
 ·rintro (h|h|h)
  ·exact .inr (List.mem_of_mem_take h)
  ·exact .inl h
  ·exact .inr (List.mem_of_mem_drop h)
 ·rintro (h|h)
  ·exact .inr (.inl h)
  ·rw[<-List.take_append_drop (ca l x.name) l,List.mem_append]at h
   exact h.imp id .inr
theorem Bc (l:List Snap) (x:Snap):(oW l x).length=l.length+1:=by
 unfold oW;rw[List.length_append,List.length_cons,List.length_take,List.length_drop];have:=mZ l x.name;omega
theorem vz {l:List Snap} {x:Snap} (S:fU l) (hn:l.any (named x.name)=false):fU (oW l x):=by
 have hlt:∀s∈l.take (ca l x.name),bI s.name x.name=true:= λs hs=>by
  obtain⟨i,hi,rfl⟩:=List.mem_iff_getElem.1 hs
  rw[List.length_take]at hi
  have h1:l[i]? =some (l.take (ca l x.name))[i]:=by rw[<-List.getElem?_eq_getElem,List.getElem?_take_of_lt (by omega)]
  exact iN (by omega) h1
 have hgt:∀s∈l.drop (ca l x.name),bI x.name s.name=true:= λs hs=>by
  obtain⟨i,hi,rfl⟩:=List.mem_iff_getElem.1 hs
  have h0:l[ca l x.name+i]? =some (l.drop (ca l x.name))[i]:=by rw[<-List.getElem?_eq_getElem,List.getElem?_drop]
  have h1:=ka S (name:=x.name) (by omega) h0
  have h2:named x.name (l.drop (ca l x.name))[i]=false:=by
   cases hh:named x.name (l.drop (ca l x.name))[i]
   ·rfl
   ·exact absurd (List.any_eq_true.2 ⟨_,List.mem_of_mem_drop hs,hh⟩) (by rw[hn];decide)
  have h3:=fu (l.drop (ca l x.name))[i].name.toList x.name.toList
  unfold bI at h1⊢
  unfold named at h2
  rw[h1,h2]at h3
  simpa using h3.symm
 unfold fU oW
 rw[List.pairwise_append,List.pairwise_cons]
 refine⟨List.Pairwise.sublist (List.take_sublist _ _) S,⟨hgt,List.Pairwise.sublist (List.drop_sublist _ _) S⟩,λa ha b hb=>?_⟩
 rcases List.mem_cons.1 hb with rfl|hb
 ·exact hlt a ha
 ·exact gT _ _ _ (hlt a ha) (hgt b hb)
end
section
open Sl
theorem jy {m:Img} (S:Sound m) {g:Int} {r f:List Int} {p:List Snap} (hl:p.length<=3) (hn:cq p=true) (hg:∀s∈p,a7 s.guest=true/\rootFine m.slots s.guest s.root=true) (hg2:a7 g=true)
  (hr:rootFine m.slots g r=true):Sound ⟨g,r,m.slots,f,p⟩:=by
 have hz:=dj S.sizes
 refine⟨ev ⟨hz.1,hz.2.1,hl⟩,S.slots,hn,?_,S.tables,?_⟩
 ·unfold aV;rw[Bool.and_eq_true,List.all_eq_true];exact⟨hg2,λs hs=>(hg s hs).1⟩
 ·unfold bU;rw[Bool.and_eq_true,List.all_eq_true];exact⟨hr,λs hs=>(hg s hs).2⟩
theorem bB {m:Img} (S:Sound m):m.snaps.length<=3/\(∀s∈m.snaps,a7 s.guest=true/\rootFine m.slots s.guest s.root=true)/\a7 m.guest=true/\rootFine m.slots m.guest m.root=true/\(∀s∈m.snaps,bj s.name=true)/\fU m.snaps:=by
 obtain⟨h1,h2,h3⟩:=ey S
 have hg:=S.guests
 unfold aV at hg
 rw[Bool.and_eq_true,List.all_eq_true]at hg
 obtain⟨n1,n2⟩:=names_iff.1 S.names
 exact⟨(dj S.sizes).2.2,λs hs=>⟨hg.2 s hs,h3 s hs⟩,h1,h2,n1,n2⟩
def cl (m:Img) (name:ByteArray):Img:={m with snaps:=oW m.snaps ⟨name,m.guest,m.root⟩}
def re (m:Img) (name:ByteArray):Snap:=eF m.snaps (bn (named name) m.snaps)
def n9 (m:Img) (name:ByteArray):Img:={m with guest:=(re m name).guest,root:=(re m name).root}
def oX (m:Img) (name:ByteArray):Img:={m with snaps:=m.snaps.eraseIdx (bn (named name) m.snaps)}
def be (m:Img) (name:ByteArray):Int:=
 if ab m=0 then(if bj name=false then 4 else if m.snaps.any (named name)=true then 6 else if m.snaps.length=3 then 2 else 0)else ab m
def bu (m:Img) (name:ByteArray):Img:=if be m name=0 then ap (cl m name)else aj
def ce (m:Img) (name:ByteArray):Img:=if bJ m name=0 then ap (n9 m name)else aj
def cf (m:Img) (name:ByteArray):Img:=if bJ m name=0 then ap (oX m name)else aj
theorem kb {m:Img} {name:ByteArray} (h:be m name=0):ab m=0/\bj name=true/\m.snaps.any (named name)=false/\m.snaps.length<3:=by
 unfold be at h
 split at h
 ·rename_i hm
  split at h
  ·contradiction
  ·rename_i h1
   split at h
   ·contradiction
   ·rename_i h2
    split at h
    ·contradiction
    ·rename_i h3
     have:=(dj (ay (aq hm).1).sizes).2.2
     exact⟨hm,by simpa using h1,by simpa using h2,by omega⟩
 ·contradiction
theorem iO {m:Img} {name:ByteArray} (h:be m name=0):Sound (cl m name):=by
 obtain⟨hm,h1,h2,h3⟩:=kb h
 have S:=ay (aq hm).1
 obtain⟨s1,s2,s3,s4,s5,s6⟩:=bB S
 refine jy S (by rw[Bc];omega) (names_iff.2 ⟨λs hs=>?_,vz s6 h2⟩) (λs hs=>?_) s3 s4
 ·rcases put_mem.1 hs with rfl|hs
  ·exact h1
  ·exact s5 s hs
 ·rcases put_mem.1 hs with rfl|hs
  ·exact⟨s3,s4⟩
  ·exact s2 s hs
theorem kc {m:Img} {name:ByteArray} (h:bJ m name=0):ab m=0/\ ∃(k:Nat) (s:Snap),m.snaps[k]? =some s/\named name s=true/\bn (named name) m.snaps=k/\ca m.snaps name=k/\re m name=s/\nh m name=(List.range s.guest.toNat).map (cH m s.root):=by
 have hm:=kR h
 have ha:m.snaps.any (named name)=true:=by
  unfold bJ at h
  rw[if_pos hm]at h
  by_cases hh:m.snaps.any (named name)=true
  ·exact hh
  ·rw[if_neg hh]at h;cases h
 have S6:=(bB (ay (aq hm).1)).2.2.2.2.2
 obtain⟨s,hs,hn⟩:=(sV S6).1 ha
 obtain⟨f1,f2⟩:=CC S6 hs hn
 obtain⟨k',s',q1,q2,q3,_,_,q5⟩:=wX hm ha
 have:k'=ca m.snaps name:=by rw[<-q3,f1]
 subst this
 rw[hs]at q2
 injection q2 with q2
 subst q2
 exact⟨hm,_,s,hs,hn,f1,rfl,by unfold re;rw[f1,bY hs],q5⟩
theorem mw {m:Img} {name:ByteArray} (h:bJ m name=0):Sound (n9 m name):=by
 obtain⟨hm,k,s,h1,h2,h3,_,h5,_⟩:=kc h
 have S:=ay (aq hm).1
 obtain⟨s1,s2,s3,s4,s5,s6⟩:=bB S
 have hs:=s2 s (List.mem_of_getElem? h1)
 unfold n9
 rw[h5]
 exact jy S s1 S.names s2 hs.1 hs.2
theorem xu {l:List Snap} {k:Nat} {s:Snap} (h:s∈l.eraseIdx k):s∈l:=(List.eraseIdx_sublist l k).subset h
theorem mx {m:Img} {name:ByteArray} (h:bJ m name=0):Sound (oX m name):=by
 obtain⟨hm,k,s,h1,h2,h3,_,h5,_⟩:=kc h
 have S:=ay (aq hm).1
 obtain⟨s1,s2,s3,s4,s5,s6⟩:=bB S
 exact jy S (Nat.le_trans (List.eraseIdx_sublist _ _).length_le s1) (names_iff.2 ⟨λs hs=>s5 s (xu hs),List.Pairwise.sublist (List.eraseIdx_sublist _ _) s6⟩) (λs hs=>s2 s (xu hs)) s3 s4
theorem Bd {m x:Img} (hs:x.slots=m.slots) (h:∀n,ax (am m) n<=ax (am x) n) (n:Nat):cnt m n<=cnt x n:=by
 unfold cnt cM
 rw[hs]
 split
 ·omega
 ·have h1:=h n
  have h2:bC ((List.range (m.slots.length-1)).map (λk=>aN m.slots (am m) n (k+1)))<=bC ((List.range (m.slots.length-1)).map (λk=>aN m.slots (am x) n (k+1))):=by
   generalize List.range (m.slots.length-1)=l
   induction l with
   |nil=>simp[bC]
   |cons a l ih=>
    simp only[List.map_cons,bC]
    have:aN m.slots (am m) n (a+1)<=aN m.slots (am x) n (a+1):=by
     unfold aN
     have:=h ((a+1:Nat):Int)
     by_cases hh:br m.slots (a+1)=2/\0<ax (am m) ((a+1:Nat):Int)
     ·rw[if_pos hh,if_pos ⟨hh.1,by omega⟩];omega
     ·rw[if_neg hh];omega
    omega
  split<;>omega
theorem vA {m x:Img} (hm:ab m=0) (hs:x.slots=m.slots) (h:∀n,ax (am m) n<=ax (am x) n):qE x=0:=by
 unfold qE
 rw[List.countP_eq_zero]
 intro j hj
 have hjl:=List.mem_range.1 hj
 rw[hs]at hjl
 rw[lj (by rw[hs];exact hjl),hs]
 have h1:=Bd hs h j
 have h2:=sU hm hjl
 intro hh
 simp only[Bool.and_eq_true,beq_iff_eq,bne_iff_ne,ne_eq]at hh
 exact hh.2 (h2.1 (by omega))
theorem sW {l:List Snap} {x:Snap} (n:Int):ax ((oW l x).map (·.root)) n=bt x.root n+ax (l.map (·.root)) n:=by
 have e:ax (l.map (·.root)) n=ax ((l.take (ca l x.name)).map (·.root)) n+ax ((l.drop (ca l x.name)).map (·.root)) n:=by
  conv=>lhs;rw[<-List.take_append_drop (ca l x.name) l]
  rw[<-dy,<-dy,<-dy,List.map_append,List.flatten_append,fy]
 rw[e]
 unfold oW
 rw[<-dy,<-dy,<-dy,List.map_append,List.map_cons,List.flatten_append,List.flatten_cons,fy,fy]
 omega
theorem jz {m:Img} {name:ByteArray} (h:be m name=0):ab (bu m name)=0/\ar m.slots=0/\ar (bu m name).slots=0/\gq (bu m name).slots=gq m.slots:=by
 have S:=iO h
 obtain⟨hm,_⟩:=kb h
 have e:bu m name=ap (cl m name):=by unfold bu;rw[if_pos h]
 have hr:=ft S
 have h1:=(ay (aq hm).1).slots
 have h2:=(ay (aq hr).1).slots
 rw[e]
 refine⟨hr,h1,h2,?_⟩
 unfold gq
 rw[if_pos h1,if_pos h2]
 have h3:=Sl.used_all (m:=cl m name)
 rw[vA (m:=m) (x:=cl m name) hm rfl λn=>by rw[ga,ga];show _<=bt m.root n+ax ((oW m.snaps ⟨name,m.guest,m.root⟩).map (·.root)) n;rw[sW];omega]at h3
 have h4:(cl m name).slots=m.slots:=rfl
 rw[h4]at h3
 omega
theorem pX {m x:Img} (hm:ab m=0) (S:Sound x) (hs:x.slots=m.slots):ab (ap x)=0/\ar m.slots=0/\ar (ap x).slots=0/\gq (ap x).slots<=gq m.slots:=by
 have hr:=ft S
 have h1:=(ay (aq hm).1).slots
 have h2:=(ay (aq hr).1).slots
 refine⟨hr,h1,h2,?_⟩
 unfold gq
 rw[if_pos h1,if_pos h2]
 have h3:=Sl.used_all (m:=x)
 rw[hs]at h3
 omega
theorem jA {m:Img} {name:ByteArray} (h:bJ m name=0):ab (ce m name)=0/\ar m.slots=0/\ar (ce m name).slots=0/\gq (ce m name).slots<=gq m.slots:=by
 unfold ce;rw[if_pos h];exact pX (kR h) (mw h) rfl
theorem jB {m:Img} {name:ByteArray} (h:bJ m name=0):ab (cf m name)=0/\ar m.slots=0/\ar (cf m name).slots=0/\gq (cf m name).slots<=gq m.slots:=by
 unfold cf;rw[if_pos h];exact pX (kR h) (mx h) rfl
end
end Go.Proofs.YtdbneghfbkjinaaGreatDoor
