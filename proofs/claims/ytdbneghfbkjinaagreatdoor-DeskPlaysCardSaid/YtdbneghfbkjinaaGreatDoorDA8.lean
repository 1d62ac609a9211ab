/- Texts of the proof of deskPlays_holds: PureX. Conditions: as each text says. -/
import Derived.Test.YtdbneghfbkjinaaGreatDoorDA1
import Derived.Test.YtdbneghfbkjinaaGreatDoorDA7
set_option maxRecDepth 100000
set_option maxHeartbeats 400000
namespace Go.Proofs.YtdbneghfbkjinaaGreatDoor
section
open Sl
section
variable {l L L':List Slot} {T D T' D':Nat->Prop} {m:Img}
def Grew (l L:List Slot) (T D:Nat->Prop):Prop:=l.length<=L.length/\ ∀j s,l[j]? =some s->s.kind≠0->∃s',L[j]? =some s'/\s'.kind=s.kind/\(¬T j->s'.table=s.table)/\(¬D j->s'.data=s.data)
theorem Grew.trans (h:Grew l L T D) (h':Grew L L' T D):Grew l L' T D:=⟨Nat.le_trans h.1 h'.1,λj s hs hk=>by
 obtain⟨s1,a1,a2,a3,a4⟩:=h.2 j s hs hk
 obtain⟨s2,b1,b2,b3,b4⟩:=h'.2 j s1 a1 (by rw[a2];exact hk)
 exact⟨s2,b1,b2.trans a2,λt=>(b3 t).trans (a3 t),λd=>(b4 d).trans (a4 d)⟩⟩
theorem Grew.laid {g:Nat} {s:Slot} (hf:∀s,l[g]? =some s->s.kind=0):Grew l (laid l g s) T D:=
 ⟨by rw[df];split<;>omega,λj s hj hk=>by
  have hn:j≠g:=by rintro rfl;exact hk (hf s hj)
  exact⟨s,(eL (zl hj) hn).trans hj,rfl,λ_=>rfl,λ_=>rfl⟩⟩
theorem Grew.set {i:Nat} {s0 s1:Slot} (hs:l[i]? =some s0) (hk:s1.kind=s0.kind) (hT:¬T i->s1.table=s0.table) (hD:¬D i->s1.data=s0.data):Grew l (l.set i s1) T D:=
 ⟨by simp,λj s hj _=>by
  have hl:=(zl hj)
  by_cases hn:i=j
  ·subst hn
   rw[hs]at hj
   injection hj with hj
   subst hj
   exact⟨s1,by rw[List.getElem?_set_self hl],hk,hT,hD⟩
  ·exact⟨s,by rw[List.getElem?_set_ne hn];exact hj,rfl,λ_=>rfl,λ_=>rfl⟩⟩
theorem Grew.kind (h:Grew l L T D) {e c:Int} (hc:0<c) (hk:aQ l e=c):aQ L e=c:=by
 obtain⟨k,rfl,k1,k2,k3⟩:=bw hk (by omega)
 have hx:=List.getElem?_eq_getElem k2
 rw[aL hx]at k3
 obtain⟨s',a1,a2,_⟩:=h.2 k _ hx (by omega)
 rw[dV k1 (zl a1),aL a1,a2,k3]
theorem Grew.table (h:Grew l L T D) {e:Int} (hk:aQ l e=2) (hT:¬T e.toNat):bh L e=bh l e:=by
 obtain⟨k,rfl,k1,k2,k3⟩:=bw hk (by omega)
 have hx:=List.getElem?_eq_getElem k2
 rw[aL hx]at k3
 obtain⟨s',a1,a2,a3,_⟩:=h.2 k _ hx (by omega)
 rw[Int.toNat_natCast]at hT
 rw[bP a1,bP hx,a3 hT]
theorem eM {e:Int} (h:aX l e=true):e<=0\/(0<e/\aQ l e=1):=by
 unfold aX at h
 simp only[Bool.or_eq_true,decide_eq_true_eq,beq_iff_eq]at h
 rcases h with h|h
 ·exact .inl h
 ·rcases Int.lt_or_le 0 e with h0|h0
  ·exact .inr ⟨h0,h⟩
  ·exact .inl h0
theorem i6 {e:Int} (h:e<=0\/aQ l e=1):aX l e=true:=by
 unfold aX
 simp only[Bool.or_eq_true,decide_eq_true_eq,beq_iff_eq]
 exact h
theorem Grew.ok (h:Grew l L T D) {e:Int} (he:aX l e=true):aX L e=true:=by
 rcases eM he with h0|⟨_,h1⟩
 ·exact i6 (.inl h0)
 ·exact i6 (.inr (h.kind (by omega) h1))
theorem Grew.page (h:Grew l L T D) {e:Int} (he:aX l e=true) (hD:0<e->¬D e.toNat):ch L e=ch l e:=by
 rcases eM he with h0|⟨h0,h1⟩
 ·rw[dX h0,dX h0]
 ·have hd:=hD h0
  obtain⟨k,rfl,k1,k2,k3⟩:=bw h1 (by omega)
  have hx:=List.getElem?_eq_getElem k2
  rw[aL hx]at k3
  obtain⟨s',a1,a2,_,a4⟩:=h.2 k _ hx (by omega)
  rw[Int.toNat_natCast]at hd
  rw[fB a1 (by omega),fB hx (by omega),a4 hd]
theorem dn (hw:Wired m) {r:List Int} (hr:r∈am m) (i:Nat):int r i=0\/aQ m.slots (int r i)=2:=by
 by_cases hi:i<r.length
 ·exact hw.roots r hr _ (by unfold int;rw[List.getD_eq_getElem?_getD,List.getElem?_eq_getElem hi];exact List.getElem_mem _)
 ·left;unfold int;rw[List.getD_eq_getElem?_getD,List.getElem?_eq_none (by omega)];rfl
theorem Grew.entry (h:Grew m.slots L T D) (hw:Wired m) {r:List Int} (hr:r∈am m) {n:Nat} (hT:0<int r (n/4)->¬T (int r (n/4)).toNat):ag L r n=ag m.slots r n:=by
 unfold ag
 rcases dn hw hr (n/4)with h0|h2
 ·rw[h0];rfl
 ·by_cases hp:0<int r (n/4)
  ·rw[if_pos hp,if_pos hp,h.table h2 (hT hp)]
  ·rw[if_neg hp,if_neg hp]
theorem mU {t:List Int} {i:Nat}:int t i=0\/int t i∈t:=by
 unfold int
 rw[List.getD_eq_getElem?_getD]
 cases hx:t[i]? with
 |none=>exact .inl rfl
 |some y=>exact .inr (List.mem_of_getElem? hx)
theorem fd (h:a8 l=true) (r:List Int) (n:Nat):aX l (ag l r n)=true:=by
 unfold ag
 split
 ·rcases mU (t:=bh l (int r (n/4))) (i:=n%4)with h0|hm
  ·rw[h0];exact i6 (.inl (Int.le_refl _))
  ·cases hs:l[(int r (n/4)).toNat]? with
   |none=>
    have e:bh l (int r (n/4))=[]:=by unfold bh;rw[hs];rfl
    rw[e]at hm;simp at hm
   |some s=>
    have e:bh l (int r (n/4))=s.table:=by unfold bh;rw[hs];rfl
    rw[e]at hm⊢
    exact List.all_eq_true.1 (List.all_eq_true.1 h s (List.mem_of_getElem? hs)) _ hm
 ·exact i6 (.inl (Int.le_refl _))
theorem gQ (h:a8 l=true) {g:Nat} {s:Slot} (hf:∀s,l[g]? =some s->s.kind=0) (hs:∀e∈s.table,aX (laid l g s) e=true):a8 (laid l g s)=true:=by
 refine List.all_eq_true.2 λy hy=>List.all_eq_true.2 λe he=>?_
 rcases rX hy with h1|rfl
 ·exact(Grew.laid (T:= λ_=>False) (D:= λ_=>False) hf).ok (List.all_eq_true.1 (List.all_eq_true.1 h y h1) e he)
 ·exact hs e he
theorem iC (h:a8 l=true) {i:Nat} {s0 s1:Slot} (hs:l[i]? =some s0) (hk:s1.kind=s0.kind) (he:∀e∈s1.table,aX l e=true):a8 (l.set i s1)=true:=by
 have hg:Grew l (l.set i s1) (λ_=>True) (λ_=>True):=Grew.set hs hk (λh=>absurd trivial h) (λh=>absurd trivial h)
 refine List.all_eq_true.2 λy hy=>List.all_eq_true.2 λe he'=>?_
 rcases List.mem_or_eq_of_mem_set hy with h1|rfl
 ·exact hg.ok (List.all_eq_true.1 (List.all_eq_true.1 h y h1) e he')
 ·exact hg.ok (he e he')
theorem Grew.rootAt (h:Grew l L T D) {g:Int} {r:List Int} {k:Nat} (hr:rootAt l g r k=true) (hT:0<int r k->¬T (int r k).toNat):rootAt L g r k=true:=by
 unfold Sl.rootAt at hr⊢
 simp only[Bool.or_eq_true,Bool.and_eq_true,beq_iff_eq]at hr⊢
 rcases hr with h0|⟨h2,hu⟩
 ·exact .inl h0
 ·obtain⟨j,ej,j1,_⟩:=bw h2 (by omega)
  exact .inr ⟨h.kind (by omega) h2,by rw[h.table h2 (hT (by omega))];exact hu⟩
theorem dY {g:Int} {r:List Int} (h:rootFine l g r=true):(r.length:Int)=a6 g/\ ∀k,k<r.length->rootAt l g r k=true:=by
 unfold rootFine at h
 simp only[Bool.and_eq_true,decide_eq_true_eq]at h
 exact⟨h.1,λk hk=>upto_iff.1 h.2 k hk⟩
theorem jn {g:Int} {r:List Int} (h:(r.length:Int)=a6 g) (h2:∀k,k<r.length->rootAt l g r k=true):rootFine l g r=true:=by
 unfold rootFine
 simp only[Bool.and_eq_true,decide_eq_true_eq]
 exact⟨h,upto_iff.2 h2⟩
theorem iD {g:Int} {r r':List Int} {k:Nat} (h:int r k=int r' k):rootAt l g r k=rootAt l g r' k:=by unfold rootAt;rw[h]
theorem fe {r:List Int} {k:Nat} {v:Int} (h:k<r.length):int (r.set k v) k=v:=by unfold int;rw[List.getD_eq_getElem?_getD,List.getElem?_set_self h];rfl
theorem ff {r:List Int} {k i:Nat} {v:Int} (h:i≠k):int (r.set k v) i=int r i:=by unfold int;rw[List.getD_eq_getElem?_getD,List.getElem?_set_ne (λe=>h e.symm),List.getD_eq_getElem?_getD]
theorem Grew.rootFine (h:Grew l L T D) {g:Int} {r:List Int} (hr:rootFine l g r=true) (hT:∀i,0<int r i->¬T (int r i).toNat):rootFine L g r=true:=
 jn (dY hr).1 λk hk=>h.rootAt ((dY hr).2 k hk) (hT k)
theorem pw {r:List Int} {x:Int} (h:bt r x<=1) {a b:Nat} (ha:r[a]? =some x) (hb:r[b]? =some x):a=b:=by
 have key:∀a b:Nat,a<b->r[a]? =some x->r[b]? =some x->2<=bt r x:=by
  intro a b hab ha hb
  have e:bt r x=bt (r.take b) x+bt (r.drop b) x:=by rw[<-fy,List.take_append_drop]
  have m1:x∈r.take b:=List.mem_of_getElem? (i:=a) (by rw[List.getElem?_take_of_lt hab];exact ha)
  have h1:0<bt (r.take b) x:=ii m1
  have m2:x∈r.drop b:=List.mem_of_getElem? (i:=0) (by rw[List.getElem?_drop,Nat.add_zero];exact hb)
  have h2:0<bt (r.drop b) x:=ii m2
  omega
 rcases Nat.lt_trichotomy a b with h1|h1|h1
 ·have:=key a b h1 ha hb;omega
 ·exact h1
 ·have:=key b a h1 hb ha;omega
theorem fF {r:List Int} {i:Nat} {x:Int} (h:int r i=x) (hx:x≠0):r[i]? =some x:=by
 unfold int at h
 rw[List.getD_eq_getElem?_getD]at h
 cases hy:r[i]? with
 |none=>rw[hy]at h;exact absurd h.symm hx
 |some y=>rw[hy]at h;exact congrArg some h
theorem ga (m:Img) (n:Int):ax (am m) n=bt m.root n+ax (m.snaps.map (·.root)) n:=rfl
theorem lr {j k:Nat} (hj1:1<=j) (h1:ax (am m) j=1) (hk:int m.root k=(j:Nat)):(∀i,int m.root i=(j:Nat)->i=k)/\ ∀s∈m.snaps,∀i,int s.root i≠(j:Nat):=by
 have hj:(j:Int)≠0:=by omega
 have hp:=ii (List.mem_of_getElem? (fF hk hj))
 rw[ga]at h1
 refine⟨λi hi=>pw (by omega) (fF hi hj) (fF hk hj),λs hs i hi=>?_⟩
 have:=jf (List.mem_map.2 ⟨s,hs,rfl⟩:s.root∈m.snaps.map (·.root)) (List.mem_of_getElem? (fF hi hj))
 omega
theorem xW {n a b:Nat} {f:Nat->Nat} (ha:a<n) (hb:b<n) (hab:a≠b):f a+f b<=bC ((List.range n).map f):=by
 have h1:=lY (n:=n) (k:=a) (f:= λi=>if i=a then 0 else f i) (g:=f) ha (λi hi=>by simp[hi]) (f a) (by simp)
 have h2:(λi=>if i=a then 0 else f i) b<=bC ((List.range n).map (λi=>if i=a then 0 else f i)):=ma (List.mem_map.2 ⟨b,List.mem_range.2 hb,rfl⟩)
 have h3:(λi=>if i=a then 0 else f i) b=f b:=if_neg (λe=>hab e.symm)
 omega
theorem jo (h:ab m=0) {j:Nat} (hj:j<m.slots.length):int m.refs j=(cnt m j:Nat):=by
 have:=(aq h).2 j hj
 unfold dS at this
 simp only[Bool.and_eq_true,beq_iff_eq]at this
 rw[this.1,lj hj]
theorem xX (S:Sound m) {n j d:Nat} (hj:int m.root (n/4)=(j:Nat)) (hj1:1<=j) (h1:ax (am m) j=1) (hd1:1<=d) (he:ag m.slots m.root n=(d:Nat)) (hc:cnt m d=1):
  (∀i,i≠n->ag m.slots m.root i≠(d:Nat))/\ ∀s∈m.snaps,∀i,ag m.slots s.root i≠(d:Nat):=by
 obtain⟨o1,o2⟩:=lr hj1 h1 hj
 have hk1:aQ m.slots (d:Nat)=1:=by
  rcases eM (fd S.tables m.root n)with h0|⟨_,h0⟩
  ·omega
  ·rw[he]at h0;exact h0
 obtain⟨d',e',_,hdl,hdk⟩:=bw hk1 (by omega)
 obtain rfl:d'=d:=by omega
 have hsum:bC ((List.range (m.slots.length-1)).map (λk=>aN m.slots (am m) d' (k+1)))<=1:=by
  unfold cnt cM at hc
  rw[if_neg (by omega),if_pos hdk]at hc
  omega
 have tab:∀r∈am m,∀i,ag m.slots r i=(d':Nat)->∃k,int r (i/4)=(k:Nat)/\1<=k/\k<m.slots.length/\(aK m.slots k)[i%4]? =some (d':Int)/\1<=aN m.slots (am m) d' k:=by
  intro r hr i hi
  unfold ag at hi
  split at hi
  ·rename_i hp
   rcases dn S.wired hr (i/4)with h0|h2
   ·omega
   ·obtain⟨k,ek,k1,k2,k3⟩:=bw h2 (by omega)
    rw[ek]at hi
    have hi:int (aK m.slots k) (i%4)=(d':Nat):=hi
    have hs:=fF hi (by omega)
    refine⟨k,ek,k1,k2,hs,?_⟩
    unfold aN
    rw[if_pos ⟨k3,jf hr (List.mem_of_getElem? (fF ek (by omega)))⟩]
    exact ii (List.mem_of_getElem? hs)
  ·omega
 have hroot:m.root∈am m:=List.mem_cons_self ..
 obtain⟨k0,a1,a2,a3,a4,a5⟩:=tab m.root hroot n he
 obtain rfl:k0=j:=by omega
 have same:∀r∈am m,∀i,ag m.slots r i=(d':Nat)->int r (i/4)=(k0:Nat)/\i%4=n%4:=by
  intro r hr i hi
  obtain⟨k,b1,b2,b3,b4,b5⟩:=tab r hr i hi
  obtain rfl:k=k0:=by
   refine Classical.byContradiction λhne=>?_
   have:=xW (n:=m.slots.length-1) (a:=k-1) (b:=k0-1) (f:= λk=>aN m.slots (am m) d' (k+1)) (by omega) (by omega) (by omega)
   rw[show k-1+1=k from by omega,show k0-1+1=k0 from by omega]at this
   omega
  refine⟨b1,pw ?_ b4 a4⟩
  have:=ma (l:=(List.range (m.slots.length-1)).map (λk=>aN m.slots (am m) d' (k+1))) (List.mem_map.2 ⟨k-1,List.mem_range.2 (by omega),rfl⟩)
  rw[show k-1+1=k from by omega]at this
  unfold aN at a5
  split at a5
  ·rename_i hh
   have e:aN m.slots (am m) d' k=bt (aK m.slots k) d':=by unfold aN;rw[if_pos hh]
   omega
  ·omega
 refine⟨λi hi hh=>?_,λs hs i hh=>?_⟩
 ·obtain⟨c1,c2⟩:=same m.root hroot i hh
  have:=o1 (i/4) c1
  omega
 ·obtain⟨c1,_⟩:=same s.root (List.mem_cons_of_mem _ (List.mem_map.2 ⟨s,hs,rfl⟩)) i hh
  exact o2 s hs _ c1
theorem lu (S:Sound m) {R:List Int} {G:Int} (hL:ar L=0) (hG:a7 G=true) (ht:a8 L=true) (hr:rootFine L G R=true) (hs:∀s∈m.snaps,rootFine L s.guest s.root=true):Sound {guest:=G,root:=R,slots:=L,refs:=m.refs,snaps:=m.snaps}:=by
 refine⟨?_,hL,S.names,?_,ht,?_⟩
 ·have:=dj S.sizes;have:=aJ hL;exact ev ⟨this.1,this.2,by dsimp only;omega⟩
 ·have:=S.guests
  unfold aV at this⊢
  simp only[Bool.and_eq_true]at this⊢
  exact⟨hG,this.2⟩
 ·unfold bU
  simp only[Bool.and_eq_true]
  exact⟨hr,List.all_eq_true.2 hs⟩
theorem ey (S:Sound m):a7 m.guest=true/\rootFine m.slots m.guest m.root=true/\ ∀s∈m.snaps,rootFine m.slots s.guest s.root=true:=by
 have h1:=S.guests
 have h2:=S.roots
 unfold aV at h1
 unfold bU at h2
 simp only[Bool.and_eq_true]at h1 h2
 exact⟨h1.1,h2.1,List.all_eq_true.1 h2.2⟩
end
end
section
open Sl
structure Eff (m x:Img) (k:Nat) (t:List Int):Prop where
 sound:Sound x
 snaps:x.snaps=m.snaps
 guest:x.guest=m.guest
 rlen:x.root.length=m.root.length
 at_:∀n,n/4=k->ag x.slots x.root n=int t (n%4)
 else_:∀n,n/4≠k->ag x.slots x.root n=ag m.slots m.root n
 past:∀s∈m.snaps,∀n,ag x.slots s.root n=ag m.slots s.root n
 page:∀e,aX m.slots e=true->ch x.slots e=ch m.slots e
def Behind (g:Int) (k:Nat) (t:List Int):Prop:=∀i:Nat,i<4->g<=4*(k:Int)+i->int t i=0
theorem rZ {g:Int} {k:Nat} {t:List Int} (h:Behind g k t):upto (λi=>decide (4*(k:Int)+i<g)||int t i==0) 4=true:=by
 refine upto_iff.2 λi hi=>?_
 by_cases hg:4*(k:Int)+i<g
 ·simp[hg]
 ·simp[h i hi (by omega)]
theorem gY (m:Img) (n:Nat):ag m.slots m.root n=int (af m (n/4)) (n%4):=by
 unfold ag af
 split
 ·rfl
 ·have:n%4=0\/n%4=1\/n%4=2\/n%4=3:=by omega
  rcases this with e|e|e|e<;>rw[e]<;>rfl
theorem cy (m:Img):m.root∈am m:=List.mem_cons_self ..
theorem fG {m:Img} {s:Snap} (h:s∈m.snaps):s.root∈am m:=List.mem_cons_of_mem _ (List.mem_map.2 ⟨s,h,rfl⟩)
theorem uJ {m:Img} (S:Sound m) {k j:Nat} {L:List Slot} {R t:List Int} (hj1:1<=j) (G:Grew m.slots L (· =j) (· =j)) (hL:ar L=0) (hT:a8 L=true) (hk2:aQ L j=2) (ht:bh L j=t)
  (hR:int R k=(j:Nat)) (hRl:R.length=m.root.length) (hRo:∀i,i≠k->int R i=int m.root i) (hn:∀i,i≠k->int m.root i≠(j:Nat)) (hs:∀s∈m.snaps,∀i,int s.root i≠(j:Nat)) (hnp:aQ m.slots j≠1) (hb:Behind m.guest k t):
  Eff m {m with slots:=L,root:=R} k t:=by
 obtain⟨r1,r2,r3⟩:=ey S
 have hw:=S.wired
 refine⟨lu S hL r1 hT ?_ λs h=>?_,rfl,rfl,hRl,λn e=>?_,λn e=>?_,λs h n=>?_,λe he=>?_⟩
 ·refine jn (by rw[hRl];exact(dY r2).1) λi hi=>?_
  by_cases hik:i=k
  ·subst hik
   unfold rootAt
   rw[hR,hk2,ht,rZ hb]
   simp
  ·rw[iD (hRo i hik)]
   exact G.rootAt ((dY r2).2 i (by omega)) λh0 h1=>hn i hik (by omega)
 ·exact G.rootFine (r3 s h) λi h0 h1=>hs s h i (by omega)
 ·show ag L R n=_
  unfold ag
  rw[e,hR,if_pos (by omega),ht]
 ·show ag L R n=_
  have e1:ag L R n=ag L m.root n:=by unfold ag;rw[hRo _ e]
  rw[e1]
  exact G.entry hw (cy m) λh0 h1=>hn _ e (by omega)
 ·exact G.entry hw (fG h) λh0 h1=>hs s h (n/4) (by omega)
 ·refine G.page he λh0 h1=>?_
  rcases eM he with h2|⟨_,h2⟩
  ·omega
  ·exact hnp (by rw[show(j:Int)=e from by omega];exact h2)
theorem uK {m:Img} (hm:ab m=0) {k:Nat} (h:gu m k=true):∃j s,int m.root k=(j:Nat)/\1<=j/\m.slots[j]? =some s/\s.kind=2/\int m.refs j=1/\cnt m j=1/\ax (am m) j=1:=by
 have S:=ay (aq hm).1
 unfold gu at h
 simp only[Bool.and_eq_true,decide_eq_true_eq,beq_iff_eq]at h
 rcases dn S.wired (cy m) k with h0|h2
 ·omega
 ·obtain⟨j,e,j1,j2,j3⟩:=bw h2 (by omega)
  have hx:=List.getElem?_eq_getElem j2
  have hr:=h.2
  rw[e,Int.toNat_natCast]at hr
  have hc:=jo hm j2
  have hc1:cnt m j=1:=by omega
  refine⟨j,_,e,j1,hx,(aL hx).symm.trans j3,hr,hc1,?_⟩
  rw[<-hc1]
  exact(bV j1 (by omega)).symm
theorem lv {l:List Slot} {g:Nat} (hf:∀s,l[g]? =some s->s.kind=0) {c:Int} (hc:0<c):aQ l g≠c:= λh=>by
 obtain⟨j,e,j1,j2,j3⟩:=bw h (by omega)
 obtain rfl:j=g:=by omega
 have hx:=List.getElem?_eq_getElem j2
 rw[aL hx,hf _ hx]at j3
 omega
theorem iE {m:Img} (hw:Wired m) {g:Nat} (hg:1<=g) (hf:∀s,m.slots[g]? =some s->s.kind=0) {r:List Int} (hr:r∈am m) (i:Nat):int r i≠(g:Nat):= λh=>by
 rcases dn hw hr i with h0|h2
 ·omega
 ·rw[h]at h2;exact lv hf (by omega) h2
theorem kD {l:List Slot} {g:Nat} (hg:1<=g) (hf:∀s,l[g]? =some s->s.kind=0) {e:Int} (he:aX l e=true):e≠(g:Nat):= λh=>by
 rcases eM he with h0|⟨_,h2⟩
 ·omega
 ·rw[h]at h2;exact lv hf (by omega) h2
theorem mf {l:List Slot} {g:Nat} {s:Slot} (h1:1<=g) (h2:g<=l.length):aQ (laid l g s) g=s.kind/\bh (laid l g s) g=s.table:=by
 have hx:=du (s:=s) h2
 exact⟨by rw[dV h1 (zl hx),aL hx],bP hx⟩
theorem nH {l:List Slot} {g:Nat} {s0 s:Slot} (h1:1<=g) (h2:l[g]? =some s0):aQ (l.set g s) g=s.kind/\bh (l.set g s) g=s.table:=by
 have hl:=(zl h2)
 have hx:(l.set g s)[g]? =some s:=List.getElem?_set_self hl
 exact⟨by rw[dV h1 (by simp;omega),aL hx],bP hx⟩
theorem xb {m x:Img} (hm:ab m=0) {k:Nat} {t:List Int} (hk:k<m.root.length) (ht:ak t=0) (hto:∀e∈t,aX m.slots e=true) (hb:Behind m.guest k t) (h:fT m k t=some x):Eff m x k t:=by
 have S:=ay (aq hm).1
 have hw:=S.wired
 obtain⟨r1,r2,r3⟩:=ey S
 unfold fT at h
 split at h
 ·rename_i e
  injection h with h
  subst h
  exact⟨S,rfl,rfl,rfl,λn hn=>by rw[gY,e,hn],λ_ _=>rfl,λ_ _ _=>rfl,λ_ _=>rfl⟩
 ·split at h
  ·rename_i hbr
   injection h with h
   subst h
   refine⟨lu S S.slots r1 S.tables ?_ r3,rfl,rfl,by simp,λn hn=>?_,λn hn=>?_,λ_ _ _=>rfl,λ_ _=>rfl⟩
   ·refine jn (by rw[List.length_set];exact(dY r2).1) λi hi=>?_
    rw[List.length_set]at hi
    by_cases hik:i=k
    ·subst hik;unfold rootAt;rw[fe hk];rfl
    ·rw[iD (ff hik)];exact(dY r2).2 i hi
   ·have e1:ag m.slots (m.root.set k 0) n=0:=by unfold ag;rw[hn,fe hk];rfl
    refine e1.trans ?_
    rcases mU (t:=t) (i:=n%4)with h0|hmem
    ·exact h0.symm
    ·have:=List.all_eq_true.1 hbr _ hmem
     simp only[beq_iff_eq]at this
     exact this.symm
   ·show ag m.slots (m.root.set k 0) n=_
    unfold ag
    rw[ff hn]
  ·rename_i hnb
   have hnb:bare t=false:=by simpa using hnb
   split at h
   ·rename_i ho
    injection h with h
    subst h
    obtain⟨j,s0,e,j1,hs,hk2,hr,hc,htl⟩:=uK hm ho
    obtain⟨o1,o2⟩:=lr j1 htl e
    rw[e,Int.toNat_natCast]
    obtain⟨q1,q2⟩:=nH (s:=aC t) j1 hs
    exact uJ (L:=m.slots.set j (aC t)) (R:=m.root) S j1 (Grew.set hs (by rw[hk2];rfl) (λh=>absurd rfl h) (λh=>absurd rfl h)) (jR S.slots j1 (eh ht hnb))
     (iC S.tables hs (by rw[hk2];rfl) hto) q1 q2 e rfl (λ_ _=>rfl) (λi hi h=>hi (o1 i h)) o2 (by rw[dV j1 (zl hs),aL hs];omega) hb
   ·split at h
    ·cases h
    ·rename_i hg
     injection h with h
     subst h
     obtain⟨g1,g2,hf,_⟩:=ec S.slots hg
     generalize hgg:aS m.slots=g at*
     obtain⟨q1,q2⟩:=mf (s:=aC t) g1 g2
     have G:Grew m.slots (laid m.slots g (aC t)) (· =g) (· =g):=Grew.laid hf
     exact uJ (L:=laid m.slots g (aC t)) (R:=m.root.set k (g:Nat)) S g1 G (by rw[<-hgg];exact gm S.slots (by rw[hgg];exact hg) (eh ht hnb))
      (gQ S.tables hf λe he=>G.ok (hto e he)) q1 q2 (fe hk) (by simp) (λi hi=>ff hi) (λi _=>iE hw g1 hf (cy m) i) (λs hs i=>iE hw g1 hf (fG hs) i) (lv hf (by omega)) hb
structure WEff (m x:Img) (n:Nat) (pg:ByteArray):Prop where
 sound:Sound x
 snaps:x.snaps=m.snaps
 guest:x.guest=m.guest
 rlen:x.root.length=m.root.length
 new:ch x.slots (ag x.slots x.root n)=pg
 else_:∀i,i≠n->ch x.slots (ag x.slots x.root i)=ch m.slots (ag m.slots m.root i)
 past:∀s∈m.snaps,∀i,ch x.slots (ag x.slots s.root i)=ch m.slots (ag m.slots s.root i)
theorem xd {m x:Img} (S:Sound m) {n:Nat} {e:Int} {pg:ByteArray} (h4:(af m (n/4)).length=4) (E:Eff m x (n/4) ((af m (n/4)).set (n%4) e)) (hp:ch x.slots e=pg):WEff m x n pg:=by
 refine⟨E.sound,E.snaps,E.guest,E.rlen,?_,λi hi=>?_,λs hs i=>?_⟩
 ·rw[E.at_ n rfl,fe (by omega)];exact hp
 ·have e1:ag x.slots x.root i=ag m.slots m.root i:=by
   by_cases hk:i/4=n/4
   ·rw[E.at_ i hk,ff (by omega),gY,hk]
   ·exact E.else_ i hk
  rw[e1]
  exact E.page _ (fd S.tables _ _)
 ·rw[E.past s hs]
  exact E.page _ (fd S.tables _ _)
theorem dC {m:Img} (hm:ab m=0) {k:Nat} (hk:k<m.root.length):ak (af m k)=0/\(∀e∈af m k,aX m.slots e=true)/\Behind m.guest k (af m k):=by
 have S:=ay (aq hm).1
 obtain⟨r1,r2,r3⟩:=ey S
 unfold af
 rcases dn S.wired (cy m) k with h0|h2
 ·rw[h0,if_neg (by omega)]
  refine⟨rfl,λe he=>i6 (.inl ?_),λi hi _=>?_⟩
  ·have:e=0:=by simpa using he
   omega
  ·have:i=0\/i=1\/i=2\/i=3:=by omega
   rcases this with e|e|e|e<;>rw[e]<;>rfl
 ·obtain⟨j,e,j1,j2,j3⟩:=bw h2 (by omega)
  have hx:=List.getElem?_eq_getElem j2
  have hk2:=(aL hx).symm.trans j3
  have hsf:=List.all_eq_true.1 (bR S.slots) _ (List.mem_of_getElem? hx)
  rw[e,if_pos (by omega),bP hx]
  refine⟨?_,λy hy=>List.all_eq_true.1 (List.all_eq_true.1 S.tables _ (List.mem_of_getElem? hx)) y hy,λi hi hg=>?_⟩
  ·unfold aD at hsf
   rw[if_neg (by omega),if_neg (by omega),if_pos hk2]at hsf
   simp only[Bool.and_eq_true,beq_iff_eq]at hsf
   exact hsf.1.2
  ·have:=(dY r2).2 k hk
   unfold rootAt at this
   rw[e,bP hx]at this
   simp only[Bool.or_eq_true,Bool.and_eq_true,beq_iff_eq]at this
   rcases this with h0|⟨_,hu⟩
   ·omega
   ·have:=upto_iff.1 hu i hi
    simp only[Bool.or_eq_true,decide_eq_true_eq,beq_iff_eq]at this
    omega
theorem Behind.set {g:Int} {k:Nat} {t:List Int} (h:Behind g k t) {n:Nat} (hn:(n:Int)<g) (hk:n/4=k) (e:Int):Behind g k (t.set (n%4) e):= λi hi hg=>by
 rw[ff (by omega)];exact h i hi hg
theorem jp {t:List Int} (h:ak t=0) (i:Nat) {e:Int} (he:cV e=true):ak (t.set i e)=0:=by
 obtain⟨h1,h2⟩:=aU h
 refine dB (by rw[List.length_set,h1]) ?_
 rw[List.all_eq_true]at h2⊢
 intro x hx
 rcases List.mem_or_eq_of_mem_set hx with h3|rfl
 ·exact h2 x h3
 ·exact he
theorem qP {m x:Img} (hm:ab m=0) {n:Nat} {e:Int} (hk:n/4<m.root.length) (hn:(n:Int)<m.guest) (he:cV e=true) (h0:e<=0) (h:dP m n e=some x):WEff m x n ng:=by
 obtain⟨f1,f2,f3⟩:=dC hm hk
 refine xd (ay (aq hm).1) (aU f1).1 (xb hm hk (jp f1 _ he) (λy hy=>?_) (f3.set hn rfl e) h) (dX h0)
 rcases List.mem_or_eq_of_mem_set hy with h3|rfl
 ·exact f2 y h3
 ·exact i6 (.inl h0)
end
section
open Sl
theorem r8 (n:Nat):bC ((List.range n).map λ_=>0)=0:=by
 induction n with
 |zero=>rfl
 |succ n ih=>rw[List.range_succ,List.map_append,cB,ih];rfl
theorem jS {l:List Int} {v:Int} (h:∀y∈l,y≠v):bt l v=0:=lZ h
theorem lx {l:List Int} {v:Int} {k:Nat} (hk:k<l.length) (h:∀y∈l,y≠v):bt (l.set k v) v=1:=by
 induction l generalizing k with
 |nil=>simp at hk
 |cons a t ih=>
  cases k with
  |zero=>
   have h0:=jS (l:=t) (v:=v) (λy hy=>h y (List.mem_cons_of_mem _ hy))
   unfold bt at h0⊢
   simp[h0]
  |succ k=>
   have h1:=ih (k:=k) (by simpa using hk) (λy hy=>h y (List.mem_cons_of_mem _ hy))
   have ha:=h a (List.mem_cons_self ..)
   unfold bt at h1⊢
   simp[h1,ha]
theorem qQ {ls:List (List Int)} {v:Int} (h:∀r∈ls,∀y∈r,y≠v):ax ls v=0:=by
 induction ls with
 |nil=>rfl
 |cons r t ih=>
  have e:ax (r::t) v=bt r v+ax t v:=rfl
  rw[e,jS (h r (List.mem_cons_self ..)),ih λr' hr=>h r' (List.mem_cons_of_mem _ hr)]
theorem Al {x:Img} (hw:Wired x) {j d:Nat} (hj1:1<=j) (hjl:j<x.slots.length) (hj2:br x.slots j=2) (hjt:0<ax (am x) j) (hd1:1<=d) (hdl:d<x.slots.length) (hd2:br x.slots d=1)
  (ho:∀k,k≠j->1<=k->bt (aK x.slots k) d=0) (h1:bt (aK x.slots j) d=1):cnt x d=1:=by
 unfold cnt cM
 rw[if_neg (by omega),if_pos hd2,li hw hd1 hdl (by omega)]
 have:=lY (n:=x.slots.length-1) (k:=j-1) (f:= λ_=>0) (g:= λk=>aN x.slots (am x) d (k+1)) (by omega) (λi hi=>by
  show 0=aN _ _ _ _
  unfold aN
  split
  ·exact(ho (i+1) (by omega) (by omega)).symm
  ·rfl) 1 (by
  show aN _ _ _ _=_
  rw[show j-1+1=j from by omega]
  unfold aN
  rw[if_pos ⟨hj2,hjt⟩,h1])
 rw[this,r8]
def Am (x:Img) (n:Nat):Prop:=∃j d:Nat,int x.root (n/4)=(j:Nat)/\1<=j/\cnt x j=1/\j<x.slots.length/\ag x.slots x.root n=(d:Nat)/\1<=d/\cnt x d=1/\d<x.slots.length
theorem mh {x y:Img} (hl:y.slots.length=x.slots.length) (hk:∀n,br y.slots n=br x.slots n) (ht:∀n,aK y.slots n=aK x.slots n) (hr:am y=am x) (n:Nat):cnt y n=cnt x n:=by
 unfold cnt cM aN
 simp only[hl,hk,ht,hr]
theorem mi {l:List Slot} {i:Nat} {s0 s:Slot} (hs:l[i]? =some s0) (hk:s.kind=s0.kind) (n:Nat):br (l.set i s) n=br l n:=by
 by_cases hn:i=n
 ·subst hn
  have hx:(l.set i s)[i]? =some s:=List.getElem?_set_self (zl hs)
  rw[aL hx,aL hs,hk]
 ·unfold br;rw[List.getElem?_set_ne hn]
theorem kE {l:List Slot} {i:Nat} {s0 s:Slot} (hs:l[i]? =some s0) (hk:s.table=s0.table) (n:Nat):aK (l.set i s) n=aK l n:=by
 by_cases hn:i=n
 ·subst hn
  have hx:(l.set i s)[i]? =some s:=List.getElem?_set_self (zl hs)
  rw[db hx,db hs,hk]
 ·unfold aK;rw[List.getElem?_set_ne hn]
theorem uL {s:Slot} (h:aD s=true) (hk:s.kind=2) (t:List Int):{s with table:=t}=aC t:=by
 unfold aD at h
 rw[if_neg (by omega),if_neg (by omega),if_pos hk]at h
 simp only[Bool.and_eq_true,beq_iff_eq]at h
 obtain⟨k,⟨a⟩,tb⟩:=s
 have ha:a.size=0:=h.1.1
 obtain rfl:a=#[]:=Array.size_eq_zero_iff.1 ha
 have hk:k=2:=hk
 subst hk
 rfl
theorem px {l:List Slot} (h:a8 l=true) {k:Nat} {e:Int} (he:e∈aK l k):aX l e=true:=by
 unfold aK at he
 cases hs:l[k]? with
 |none=>rw[hs]at he;simp at he
 |some s=>
  rw[hs]at he
  exact List.all_eq_true.1 (List.all_eq_true.1 h s (List.mem_of_getElem? hs)) _ he
theorem r9 {m:Img} (S:Sound m) {n j d:Nat} {L:List Slot} {R:List Int} {pg:ByteArray} (hn:(n:Int)<m.guest) (he:ak (af m (n/4))=0) (hb:Behind m.guest (n/4) (af m (n/4)))
  (hj1:1<=j) (G:Grew m.slots L (· =j) (· =j)) (hL:ar L=0) (hT:a8 L=true) (hk2:aQ L j=2) (ht:bh L j=(af m (n/4)).set (n%4) (d:Nat))
  (hR:int R (n/4)=(j:Nat)) (hRl:R.length=m.root.length) (hRo:∀i,i≠n/4->int R i=int m.root i) (hno:∀i,i≠n/4->int m.root i≠(j:Nat)) (hs:∀s∈m.snaps,∀i,int s.root i≠(j:Nat)) (hnp:aQ m.slots j≠1)
  (hd1:1<=d) (hdk:aQ L d=1) (hdp:ch L d=pg) (hjt:ax (am {m with slots:=L,root:=R}) j=1) (hde:∀e∈af m (n/4),e≠(d:Nat)) (hdo:∀k,k≠j->1<=k->bt (aK L k) d=0):
  WEff m {m with slots:=L,root:=R} n pg/\Am {m with slots:=L,root:=R} n:=by
 have E:=uJ S hj1 G hL hT hk2 ht hR hRl hRo hno hs hnp (hb.set hn rfl _)
 have h4:=(aU he).1
 obtain⟨j',ej,_,jl,jk⟩:=bw hk2 (by omega)
 obtain rfl:j=j':=by omega
 obtain⟨d',ed,_,dl,dk⟩:=bw hdk (by omega)
 obtain rfl:d=d':=by omega
 refine⟨xd S h4 E hdp,j,d,hR,hj1,?_,jl,?_,hd1,?_,dl⟩
 ·rw[<-hjt];exact bV hj1 (by show br L j≠1;omega)
 ·rw[E.at_ n rfl,fe (by omega)]
 ·refine Al E.sound.wired hj1 jl jk (by rw[hjt];omega) hd1 dl dk hdo ?_
  have e:aK L j=(af m (n/4)).set (n%4) (d:Nat):=by rw[<-ht];unfold bh aK;rw[Int.toNat_natCast]
  show bt (aK L j) d=1
  rw[e]
  exact lx (by omega) hde
theorem se {t:List Int} {i:Nat} (hi:i<t.length) {d:Nat} (hd:1<=d):bare (t.set i (d:Nat))=false:=by
 have hm:((d:Nat):Int)∈t.set i (d:Nat):=List.mem_of_getElem? (i:=i) (by rw[List.getElem?_set_self hi])
 cases hb:bare (t.set i (d:Nat))
 ·rfl
 ·have:=List.all_eq_true.1 hb _ hm
  simp only[beq_iff_eq]at this
  omega
theorem py {l:List Slot} (h:a8 l=true) {g:Nat} (hg:1<=g) (hf:∀s,l[g]? =some s->s.kind=0) (k:Nat):bt (aK l k) g=0:=jS λ_ hy=>kD hg hf (px h hy)
theorem mj {l:List Slot} {g d:Nat} {s:Slot} (hg:g<=l.length) (hd:bt s.table d=0) (h:∀k,bt (aK l k) d=0) (k:Nat):bt (aK (laid l g s) k) d=0:=by
 by_cases hk:k=g
 ·subst hk;rw[db (du hg)];exact hd
 ·by_cases hl:k<l.length
  ·have e:aK (laid l g s) k=aK l k:=by unfold aK;rw[eL hl hk]
   rw[e];exact h k
  ·have e:aK (laid l g s) k=[]:=by unfold aK;rw[xV (by omega) hk];rfl
   rw[e];rfl
theorem pz {l:List Slot} {j d:Nat} {s:Slot} (h:∀k,bt (aK l k) d=0) (k:Nat) (hk:k≠j):bt (aK (l.set j s) k) d=0:=by
 have e:aK (l.set j s) k=aK l k:=by unfold aK;rw[List.getElem?_set_ne (λe=>hk e.symm)]
 rw[e];exact h k
theorem il {m x:Img} (hm:ab m=0) {n:Nat} {pg:ByteArray} (hk:n/4<m.root.length) (hn:(n:Int)<m.guest) (hp:pg.size=4) (h:cv m n pg=some x):(WEff m x n pg/\Am x n)/\x.slots.length<=m.slots.length+2:=by
 have S:=ay (aq hm).1
 have hw:=S.wired
 obtain⟨r1,r2,r3⟩:=ey S
 obtain⟨f1,f2,f3⟩:=dC hm hk
 have h4:=(aU f1).1
 unfold cv at h
 dsimp only at h
 split at h
 ·rename_i hc
  obtain⟨ho,he0,hr⟩:=hc
  injection h with h
  obtain⟨j,s0,e,j1,hs,hk2,_,hcj,htl⟩:=uK hm ho
  obtain⟨o1,o2⟩:=lr j1 htl e
  rcases eM (fd S.tables m.root n)with h0|⟨_,hke⟩
  ·omega
  ·obtain⟨d,ed,d1,d2,d3⟩:=bw hke (by omega)
   rw[ed,Int.toNat_natCast]at h hr
   have hcd:cnt m d=1:=by have:=jo hm d2;omega
   obtain⟨p1,p2⟩:=xX S e j1 htl d1 ed hcd
   have hds:=List.getElem?_eq_getElem d2
   generalize m.slots[d]=sd at hds
   rw[List.getD_eq_getElem?_getD,hds,Option.getD_some]at h
   have hkd:sd.kind=1:=(aL hds).symm.trans d3
   have hsf:=List.all_eq_true.1 (bR S.slots) _ (List.mem_of_getElem? hds)
   have hsf2:aD {sd with data:=pg}=true:=by
    unfold aD at hsf⊢
    rw[if_neg (by omega),if_pos hkd]at hsf
    rw[if_neg (by show¬sd.kind=0;omega),if_pos (by show sd.kind=1;exact hkd)]
    simp only[Bool.and_eq_true,beq_iff_eq]at hsf⊢
    exact⟨hp,hsf.2⟩
   have G:Grew m.slots (m.slots.set d {sd with data:=pg}) (λ_=>False) (· =d):=Grew.set hds rfl (λ_=>rfl) (λh=>absurd rfl h)
   have ent:∀r∈am m,∀i,ag (m.slots.set d {sd with data:=pg}) r i=ag m.slots r i:= λr hr i=>G.entry hw hr λ_ h=>h
   have pag:∀r i,ag m.slots r i≠(d:Nat)->ch (m.slots.set d {sd with data:=pg}) (ag m.slots r i)=ch m.slots (ag m.slots r i):= λr i hne=>G.page (fd S.tables r i) λh0 h1=>hne (by omega)
   have hset:(m.slots.set d {sd with data:=pg})[d]? =some {sd with data:=pg}:=List.getElem?_set_self d2
   subst h
   refine⟨⟨⟨lu S (jR S.slots d1 hsf2) r1 (iC S.tables hds rfl λy hy=>px S.tables (k:=d) (by rw[db hds];exact hy)) (G.rootFine r2 λ_ _ h=>h) λs hs=>G.rootFine (r3 s hs) λ_ _ h=>h,rfl,rfl,rfl,?_,λi hi=>?_,λs hs i=>?_⟩,j,d,e,j1,?_,?_,?_,d1,?_,?_⟩,by simp⟩
   ·show ch (m.slots.set d _) (ag (m.slots.set d _) m.root n)=pg
    rw[ent _ (cy m),ed,fB hset (by omega)]
   ·show ch (m.slots.set d _) (ag (m.slots.set d _) m.root i)=_
    rw[ent _ (cy m)];exact pag _ _ (p1 i hi)
   ·show ch (m.slots.set d _) (ag (m.slots.set d _) s.root i)=_
    rw[ent _ (fG hs)];exact pag _ _ (p2 s hs i)
   ·exact(mh (x:=m) (y:={m with slots:=m.slots.set d {sd with data:=pg}}) (by simp) (λi=>mi (s:={sd with data:=pg}) hds rfl i) (λi=>kE (s:={sd with data:=pg}) hds rfl i) rfl j).trans hcj
   ·simp;exact(zl hs)
   ·show ag (m.slots.set d _) m.root n=_
    rw[ent _ (cy m),ed]
   ·exact(mh (x:=m) (y:={m with slots:=m.slots.set d {sd with data:=pg}}) (by simp) (λi=>mi (s:={sd with data:=pg}) hds rfl i) (λi=>kE (s:={sd with data:=pg}) hds rfl i) rfl d).trans hcd
   ·simp;exact d2
 ·split at h
  ·rename_i ho
   split at h
   ·cases h
   ·rename_i hg
    injection h with h
    obtain⟨j,s0,e,j1,hs,hk2,_,hcj,htl⟩:=uK hm ho
    obtain⟨o1,o2⟩:=lr j1 htl e
    obtain⟨g1,g2,hf,_⟩:=ec S.slots hg
    have hL1:=gm S.slots hg (nF hp)
    generalize aS m.slots=g at*
    have hjl:=(zl hs)
    have hjg:j≠g:=by rintro rfl;have:=hf _ hs;omega
    have hs1:(laid m.slots g (bF pg))[j]? =some s0:=(eL hjl hjg).trans hs
    have hsf:=List.all_eq_true.1 (bR S.slots) _ (List.mem_of_getElem? hs)
    rw[e,Int.toNat_natCast,List.getD_eq_getElem?_getD,hs1,Option.getD_some,uL hsf hk2]at h
    obtain⟨q1,q2⟩:=mf (s:=bF pg) g1 g2
    have G1:∀{T D:Nat->Prop},Grew m.slots (laid m.slots g (bF pg)) T D:=Grew.laid hf
    have hkt:(aC ((af m (n/4)).set (n%4) (g:Nat))).kind=s0.kind:=hk2.symm
    have hgl:g<(laid m.slots g (bF pg)).length:=(List.getElem?_eq_some_iff.1 (du (s:=bF pg) g2)).1
    have h40:=(aJ hL1).2
    have hfg:cV (g:Nat)=true:=by unfold cV;simp;omega
    obtain⟨u1,u2⟩:=nH (s:=aC ((af m (n/4)).set (n%4) (g:Nat))) j1 hs1
    have G2:∀{T D:Nat->Prop},T j->D j->Grew (laid m.slots g (bF pg)) ((laid m.slots g (bF pg)).set j (aC ((af m (n/4)).set (n%4) (g:Nat)))) T D:= λhT hD=>Grew.set hs1 hkt (λh=>absurd hT h) (λh=>absurd hD h)
    have hT1:a8 (laid m.slots g (bF pg))=true:=gQ S.tables hf λy hy=>by cases hy
    subst h
    refine⟨r9 (d:=g) (L:=(laid m.slots g (bF pg)).set j (aC ((af m (n/4)).set (n%4) (g:Nat)))) (R:=m.root) S hn f1 f3 j1 (G1.trans (G2 rfl rfl)) (jR hL1 j1 (eh (jp f1 _ hfg) (se (by omega) g1)))
     (iC hT1 hs1 hkt λy hy=>?_) u1 u2 e rfl (λ_ _=>rfl) (λi hi h=>hi (o1 i h)) o2 (by rw[dV j1 hjl,aL hs];omega) g1 ((G2 (T:= λ_=>True) (D:= λ_=>True) trivial trivial).kind (by omega) q1) ?_ htl (λy hy=>kD g1 hf (f2 y hy)) ?_,?_⟩
    ·rcases List.mem_or_eq_of_mem_set hy with h3|rfl
     ·exact(G1 (T:= λ_=>True) (D:= λ_=>True)).ok (f2 y h3)
     ·exact i6 (.inr q1)
    ·have hx:((laid m.slots g (bF pg)).set j (aC ((af m (n/4)).set (n%4) (g:Nat))))[g]? =some (bF pg):=by rw[List.getElem?_set_ne hjg];exact du g2
     rw[fB hx (by omega)];rfl
    ·exactλk hkj _=>pz (mj g2 rfl (py S.tables g1 hf)) k hkj
    ·simp only[List.length_set];rw[df];split<;>omega
  ·split at h
   ·cases h
   ·rename_i hg
    split at h
    ·cases h
    ·rename_i hgg
     injection h with h
     obtain⟨g1,g2,hf,_⟩:=ec S.slots hg
     have hL1:=gm S.slots hg (eh (t:=[-1,0,0,0]) rfl rfl)
     obtain⟨c1,c2,hf2,_⟩:=ec hL1 hgg
     have hL2:=gm hL1 hgg (nF hp)
     generalize hG:aS m.slots=g at*
     generalize hG2:aS (laid m.slots g (aC [-1,0,0,0]))=d at*
     have hx1:=du (s:=aC [-1,0,0,0]) g2
     have hgd:g≠d:=by rintro rfl;exact absurd (hf2 _ hx1) (by decide)
     have hx2:(laid (laid m.slots g (aC [-1,0,0,0])) d (bF pg))[g]? =some (aC [-1,0,0,0]):=(eL (zl hx1) hgd).trans hx1
     have hfd:∀s,m.slots[d]? =some s->s.kind=0:= λs hs=>hf2 s ((eL (zl hs) (λe=>hgd e.symm)).trans hs)
     obtain⟨q1,q2⟩:=mf (s:=bF pg) c1 c2
     have hT1:a8 (laid m.slots g (aC [-1,0,0,0]))=true:=gQ S.tables hf λy hy=>i6 (.inl (by
      have:y= -1\/y=0:=by simpa[aC]using hy
      omega))
     have hT2:a8 (laid (laid m.slots g (aC [-1,0,0,0])) d (bF pg))=true:=gQ hT1 hf2 λy hy=>by cases hy
     have hdl:d<(laid (laid m.slots g (aC [-1,0,0,0])) d (bF pg)).length:=(List.getElem?_eq_some_iff.1 (du (s:=bF pg) c2)).1
     have h40:=(aJ hL2).2
     have hfg:cV (d:Nat)=true:=by unfold cV;simp;omega
     have hkt:(aC ((af m (n/4)).set (n%4) (d:Nat))).kind=(aC [-1,0,0,0]).kind:=rfl
     obtain⟨u1,u2⟩:=nH (s:=aC ((af m (n/4)).set (n%4) (d:Nat))) g1 hx2
     have G1:∀{T D:Nat->Prop},Grew m.slots (laid (laid m.slots g (aC [-1,0,0,0])) d (bF pg)) T D:=(Grew.laid hf).trans (Grew.laid hf2)
     have G2:∀{T D:Nat->Prop},T g->D g->Grew (laid (laid m.slots g (aC [-1,0,0,0])) d (bF pg)) ((laid (laid m.slots g (aC [-1,0,0,0])) d (bF pg)).set g (aC ((af m (n/4)).set (n%4) (d:Nat)))) T D:= λhT hD=>Grew.set hx2 hkt (λh=>absurd hT h) (λh=>absurd hD h)
     have hfr:∀r∈am m,∀y∈r,y≠(g:Nat):= λr hr y hy=>by
      rcases hw.roots r hr y hy with h0|h2
      ·omega
      ·intro h;rw[h]at h2;exact lv hf (by omega) h2
     subst h
     refine⟨r9 (d:=d) (j:=g) (L:=(laid (laid m.slots g (aC [-1,0,0,0])) d (bF pg)).set g (aC ((af m (n/4)).set (n%4) (d:Nat)))) (R:=m.root.set (n/4) (g:Nat)) S hn f1 f3 g1 (G1.trans (G2 rfl rfl)) (jR hL2 g1 (eh (jp f1 _ hfg) (se (by omega) c1)))
      (iC hT2 hx2 hkt λy hy=>?_) u1 u2 (fe hk) (by simp) (λi hi=>ff hi) (λi _=>iE hw g1 hf (cy m) i) (λs hs i=>iE hw g1 hf (fG hs) i) (lv hf (by omega)) c1 ((G2 (T:= λ_=>True) (D:= λ_=>True) trivial trivial).kind (by omega) q1) ?_ ?_ (λy hy=>kD c1 hfd (f2 y hy)) ?_,?_⟩
     ·rcases List.mem_or_eq_of_mem_set hy with h3|rfl
      ·exact(G1 (T:= λ_=>True) (D:= λ_=>True)).ok (f2 y h3)
      ·exact i6 (.inr q1)
     ·have hx:((laid (laid m.slots g (aC [-1,0,0,0])) d (bF pg)).set g (aC ((af m (n/4)).set (n%4) (d:Nat))))[d]? =some (bF pg):=by rw[List.getElem?_set_ne hgd];exact du c2
      rw[fB hx (by omega)];rfl
     ·rw[ga,qQ λr hr=>hfr r (List.mem_cons_of_mem _ hr)]
      show bt (m.root.set (n/4) (g:Nat)) g+0=1
      rw[lx hk (hfr _ (cy m))]
     ·exactλk hkj _=>pz (mj c2 rfl (mj g2 (jS λy hy=>by
       have:y= -1\/y=0:=by simpa[aC]using hy
       omega) (py S.tables c1 hfd))) k hkj
     ·simp only[List.length_set];rw[df,df];split<;>split<;>omega
end
section
open Sl
theorem iF {m:Img} (hm:ab m=0) {n:Nat} (hn:(n:Int)<m.guest):n/4<m.root.length:=by
 have h:=(dY (gi hm).2.2).1
 unfold a6 at h
 omega
theorem An {m:Img} {n:Int} {pg:ByteArray} (x:Img) (he:aE m n=0) (hp:pg.size=4) (h:cv m n.toNat pg=some x):CBd x/\Wired x:=by
 obtain⟨hm,h0,hn⟩:=dm he
 obtain⟨k,rfl⟩:=Int.eq_ofNat_of_zero_le h0
 have S:=(il hm (iF hm hn) hn hp h).1.1.sound
 exact⟨S.cbd,S.wired⟩
theorem Ao {m:Img} {n e:Int} (hf:cV e=true) (h0:e<=0) (x:Img) (he:aE m n=0) (h:dP m n.toNat e=some x):CBd x/\Wired x:=by
 obtain⟨hm,h1,hn⟩:=dm he
 obtain⟨k,rfl⟩:=Int.eq_ofNat_of_zero_le h1
 have S:=(qP hm (iF hm hn) hn hf h0 h).sound
 exact⟨S.cbd,S.wired⟩
theorem qR {l:List Int} {n i:Nat}:int (l++List.replicate n 0) i=int l i:=by
 unfold int
 simp only[List.getD_eq_getElem?_getD]
 by_cases h:i<l.length
 ·rw[List.getElem?_append_left h]
 ·rw[List.getElem?_append_right (by omega),List.getElem?_eq_none (l:=l) (by omega)]
  by_cases h2:i-l.length<n
  ·rw[List.getElem?_replicate,if_pos h2];rfl
  ·rw[List.getElem?_eq_none (by simp;omega)]
theorem sf {l:List Int} {n i:Nat} (h:i<n):int (l.take n) i=int l i:=by
 unfold int
 simp only[List.getD_eq_getElem?_getD]
 rw[List.getElem?_take_of_lt h]
theorem nI {l:List Int} {i:Nat} (h:l.length<=i):int l i=0:=by
 unfold int
 rw[List.getD_eq_getElem?_getD,List.getElem?_eq_none h];rfl
def cH (m:Img) (r:List Int) (n:Nat):ByteArray:=ch m.slots (ag m.slots r n)
structure REff (m x:Img) (g:Nat):Prop where
 sound:Sound x
 snaps:x.snaps=m.snaps
 guest:x.guest=(g:Nat)
 rlen:x.root.length=(g+3)/4
 pages:∀i,i<g->cH x x.root i=cH m m.root i
 past:∀s∈m.snaps,∀i,cH x s.root i=cH m s.root i
theorem sg {m y:Img} (S:Sound y) (hsn:y.snaps=m.snaps) {g:Nat} (hg:g<=16) (hb:∀i:Nat,g<=i->i/4=g/4->0<g%4->ag y.slots y.root i=0)
  (hp:∀i,i<g->cH y y.root i=cH m m.root i) (hpast:∀s∈m.snaps,∀i,cH y s.root i=cH m s.root i):
  REff m {y with guest:=g,root:=(y.root++List.replicate 16 0).take (a6 g).toNat} g:=by
 have hw:(a6 (g:Int)).toNat=(g+3)/4:=by unfold a6;omega
 obtain⟨r1,r2,r3⟩:=ey S
 have hl:((y.root++List.replicate 16 0).take (a6 g).toNat).length=(g+3)/4:=by rw[List.length_take,List.length_append,List.length_replicate,hw];omega
 have hi:∀i,i<(g+3)/4->int ((y.root++List.replicate 16 0).take (a6 g).toNat) i=int y.root i:= λi h=>by rw[sf (by omega),qR]
 have hent:∀i,i<g->ag y.slots ((y.root++List.replicate 16 0).take (a6 g).toNat) i=ag y.slots y.root i:= λi h=>by unfold ag;rw[hi _ (by omega)]
 refine⟨lu S S.slots (by unfold a7;simp;omega) S.tables (jn ?_ λk hk=>?_) r3,hsn,rfl,hl,λi h=>?_,hpast⟩
 ·rw[hl];unfold a6;omega
 ·rw[hl]at hk
  rw[iD (hi k hk)]
  unfold rootAt
  simp only[Bool.or_eq_true,Bool.and_eq_true,beq_iff_eq]
  rcases dn S.wired (cy y) k with h0|h2
  ·exact .inl h0
  ·refine .inr ⟨h2,upto_iff.2 λi h4=>?_⟩
   simp only[Bool.or_eq_true,decide_eq_true_eq,beq_iff_eq]
   by_cases hlt:4*(k:Int)+i<g
   ·exact .inl hlt
   ·right
    have e:=hb (4*k+i) (by omega) (by omega) (by omega)
    unfold ag at e
    rw[show(4*k+i)/4=k from by omega,show(4*k+i)%4=i from by omega]at e
    obtain⟨j,ej,j1,_⟩:=bw h2 (by omega)
    rw[if_pos (by omega)]at e
    exact e
 ·show ch y.slots (ag y.slots _ i)=_
  rw[hent i h]
  exact hp i h
theorem iG {m x:Img} (hm:ab m=0) {g:Nat} (hg:g<=16) (h:bW m g=some x):REff m x g:=by
 have S:=ay (aq hm).1
 unfold bW at h
 split at h
 ·rename_i hc
  cases hy:fT m (g/4) ((af m (g/4)).take (g%4)++List.replicate (4-g%4) 0)with
  |none=>rw[hy]at h;cases h
  |some y=>
   rw[hy]at h
   injection h with h
   subst h
   obtain⟨f1,f2,f3⟩:=dC hm hc.2
   obtain⟨q1,q2⟩:=aU f1
   have hlen:((af m (g/4)).take (g%4)).length=g%4:=by rw[List.length_take];omega
   have hti:∀i,i<g%4->int ((af m (g/4)).take (g%4)++List.replicate (4-g%4) 0) i=int (af m (g/4)) i:= λi hi=>by rw[qR,sf hi]
   have htz:∀i,g%4<=i->int ((af m (g/4)).take (g%4)++List.replicate (4-g%4) 0) i=0:= λi hi=>by rw[qR,nI (by omega)]
   have E:=xb hm hc.2 (dB (by rw[List.length_append,hlen,List.length_replicate];omega) (List.all_eq_true.2 λe he=>by
    rcases List.mem_append.1 he with h1|h1
    ·exact List.all_eq_true.1 q2 e (List.mem_of_mem_take h1)
    ·rw[(List.mem_replicate.1 h1).2];rfl)) (λe he=>by
    rcases List.mem_append.1 he with h1|h1
    ·exact f2 e (List.mem_of_mem_take h1)
    ·rw[(List.mem_replicate.1 h1).2];exact i6 (.inl (Int.le_refl _))) (λi hi hgi=>by
    by_cases hlt:i<g%4
    ·rw[hti i hlt];exact f3 i hi hgi
    ·exact htz i (by omega)) hy
   refine sg E.sound E.snaps hg (λi h1 h2 _=>?_) (λi hi=>?_) (λs hs i=>?_)
   ·rw[E.at_ i h2];exact htz _ (by omega)
   ·unfold cH
    have e1:ag y.slots y.root i=ag m.slots m.root i:=by
     by_cases hk:i/4=g/4
     ·rw[E.at_ i hk,hti _ (by omega),gY,hk]
     ·exact E.else_ i hk
    rw[e1]
    exact E.page _ (fd S.tables _ _)
   ·unfold cH
    rw[E.past s hs]
    exact E.page _ (fd S.tables _ _)
 ·rename_i hc
  injection h with h
  subst h
  refine sg S rfl hg (λi h1 h2 h3=>?_) (λ_ _=>rfl) (λ_ _ _=>rfl)
  by_cases hk:g/4<m.root.length
  ·exact absurd ⟨h3,hk⟩ hc
  ·unfold ag
   rw[h2,nI (by omega)]
   rfl
theorem xY {m:Img} {g:Int} (x:Img) (hm:ab m=0) (h0:0<=g) (h16:g<=16) (h:bW m g.toNat=some x):CBd x/\Wired x:=by
 obtain⟨k,rfl⟩:=Int.eq_ofNat_of_zero_le h0
 have S:=(iG hm (by omega) h).sound
 exact⟨S.cbd,S.wired⟩
theorem dZ {x:Img} (S:Sound x) {r:List Int} (hr:r∈am x) (n:Nat):cH (ap x) r n=cH x r n:=by
 unfold cH
 by_cases hn:n/4<r.length
 ·obtain⟨e1,e2⟩:=oO S hr hn
  rw[e1,e2]
 ·have e:∀l:List Slot,ag l r n=0:= λl=>by unfold ag;rw[nI (by omega)];rfl
  rw[e,e,dX (Int.le_refl _),dX (Int.le_refl _)]
end
end Go.Proofs.YtdbneghfbkjinaaGreatDoor
