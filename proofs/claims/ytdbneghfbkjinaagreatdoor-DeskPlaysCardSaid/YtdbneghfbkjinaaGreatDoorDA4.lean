/- Texts of the proof of deskPlays_holds: PureM, Base. Conditions: as each text says. -/
import Derived.Test.YtdbneghfbkjinaaGreatDoorDA1
import Derived.Test.YtdbneghfbkjinaaGreatDoorDA3
import Derived.Test.YtdbneghfbkjinaaGreatDoorRows
import Derived.WalkSpells
import Derived.WalkLawsBesides
import Derived.Lib.Hide
import Derived.BigQuiet
import Derived.Deep.RegionHeld3
set_option maxRecDepth 100000
set_option maxHeartbeats 400000
namespace Sl
def dF {α:Type} (d:α) (l:List α) (cs:List Int) (k:Nat):List α:=l.mapIdx (λn x=>if n<k/\int cs n=0 then d else x)
section
variable {α β:Type} (d:α) (l:List α) (cs:List Int)
theorem eZ:dF d l cs 0=l:=by
 unfold dF
 apply List.ext_getElem?
 intro i
 rw[List.getElem?_mapIdx]
 simp
theorem xJ (k:Nat):(dF d l cs k).length=l.length:=by simp[dF]
theorem gj (k:Nat) (h:int cs k=0):dF d l cs (k+1)=(dF d l cs k).set k d:=by
 apply List.ext_getElem?
 intro i
 unfold dF
 rw[List.getElem?_set,List.getElem?_mapIdx,List.getElem?_mapIdx,List.length_mapIdx]
 by_cases hi:k=i
 ·subst hi
  rw[if_pos rfl]
  by_cases hl:k<l.length
  ·rw[if_pos hl,List.getElem?_eq_getElem hl];simp[h]
  ·rw[if_neg hl,List.getElem?_eq_none (by omega)];rfl
 ·rw[if_neg hi]
  have:(i<k+1)↔(i<k):=by omega
  simp only[this]
theorem ie (k:Nat) (h:int cs k≠0):dF d l cs (k+1)=dF d l cs k:=by
 apply List.ext_getElem?
 intro i
 unfold dF
 rw[List.getElem?_mapIdx,List.getElem?_mapIdx]
 by_cases hi:k=i
 ·subst hi;simp[h]
 ·have:(i<k+1)↔(i<k):=by omega
  simp only[this]
end
def freeSlot:Slot:=⟨0,{data:=#[]},[]⟩
def ap (m:Img):Img:={m with refs:=aM m,slots:=dF freeSlot m.slots (aM m) m.slots.length}
def qE (m:Img):Nat:=((List.range m.slots.length).countP (λk=>int (aM m) k==0&&br m.slots k !=0))
end Sl
namespace Sl
structure Sound (m:Img):Prop where
 sizes:eG m=true
 slots:ar m.slots=0
 names:cq m.snaps=true
 guests:aV m=true
 tables:a8 m.slots=true
 roots:bU m=true
variable {m:Img}
theorem ay (h:aB m=0):Sound m:=by
 obtain⟨h1,h2,h3,h4,h5⟩:=dI h
 exact⟨h1.sizes,h1.slots,h2,h3,h4,h5⟩
theorem Sound.shape (h:Sound m) (hr:m.refs.length=m.slots.length):aB m=0:=zV ⟨h.sizes,h.slots,hr⟩ h.names h.guests h.tables h.roots
theorem Sound.zeros (h:Sound m):aB {m with refs:=List.replicate m.slots.length 0}=0:=Sound.shape (m:={m with refs:=List.replicate m.slots.length 0}) ⟨h.sizes,h.slots,h.names,h.guests,h.tables,h.roots⟩ (by simp)
theorem Sound.cbd (h:Sound m):CBd m:=by have:=dz h.zeros;exact⟨this.one,this.slots,this.snaps,this.root,this.roots,this.tables⟩
theorem Sound.wired (h:Sound m):Wired m:=by have:=gM h.zeros;exact⟨this.tables,this.roots⟩
def cnt (m:Img) (n:Nat):Nat:=cM m.slots (am m) n
theorem lj {n:Nat} (h:n<m.slots.length):int (aM m) n=cnt m n:=by rw[bN,Cg _ h];rfl
theorem ig {n:Nat} (h:n<m.slots.length):(aM m)[n]? =some ((cnt m n:Nat):Int):=by rw[bN,gr _ h];rfl
theorem bS:(ap m).slots.length=m.slots.length:=by unfold ap;exact xJ _ _ _ _
theorem ef {n:Nat} {s:Slot} (h:m.slots[n]? =some s):(ap m).slots[n]? =some (if cnt m n=0 then freeSlot else s):=by
 have hl:=(zl h)
 unfold ap dF
 simp only
 rw[List.getElem?_mapIdx,h,Option.map_some,lj hl]
 by_cases hc:cnt m n=0
 ·rw[if_pos hc,if_pos ⟨hl,by rw[hc];rfl⟩]
 ·rw[if_neg hc,if_neg (λhh=>hc (by have:=hh.2;omega))]
theorem eJ {n:Nat} (h:n<m.slots.length):br (ap m).slots n=if cnt m n=0 then 0 else br m.slots n:=by
 have hs:=List.getElem?_eq_getElem h
 rw[aL (ef hs),aL hs]
 split<;>rfl
theorem gW {n:Nat} (h:n<m.slots.length):aK (ap m).slots n=if cnt m n=0 then[]else aK m.slots n:=by
 have hs:=List.getElem?_eq_getElem h
 rw[db (ef hs),db hs]
 split<;>rfl
theorem ii {l:List Int} {t:Int} (h:t∈l):0<bt l t:=by unfold bt;rw[List.countP_pos_iff];exact⟨t,h,by simp⟩
theorem jf {ls:List (List Int)} {r:List Int} {t:Int} (hr:r∈ls) (h:t∈r):0<ax ls t:=by
 rw[<-dy];exact ii (List.mem_flatten.2 ⟨r,hr,h⟩)
theorem nl {k:Nat} (hk:1<=k):ax (am m) k<=cnt m k:=by unfold cnt cM;rw[if_neg (by omega)];omega
theorem nn {r:List Int} {k:Nat} (hr:r∈am m) (h:(k:Int)∈r) (hk:1<=k):cnt m k≠0:=by
 have:=jf hr h;have:=nl (m:=m) hk;omega
theorem bw {l:List Slot} {e:Int} {c:Int} (h:aQ l e=c) (hc:0<=c):∃k:Nat,e=k/\1<=k/\k<l.length/\br l k=c:=by
 have h0:=h
 unfold aQ at h
 split at h
 ·rename_i hh
  obtain⟨k,rfl⟩:=Int.eq_ofNat_of_zero_le (a:=e) (by omega)
  exact⟨k,rfl,by omega,by omega,by rw[<-dV (by omega) (by omega)];exact h0⟩
 ·omega
theorem uB (h:a8 m.slots=true) {k:Nat} {e:Int} (he:e∈aK m.slots k) (h0:0<e):∃j:Nat,e=j/\1<=j/\j<m.slots.length/\br m.slots j=1:=by
 unfold aK at he
 cases hs:m.slots[k]? with
 |none=>rw[hs]at he;simp at he
 |some s=>
  rw[hs]at he
  have:=List.all_eq_true.1 (List.all_eq_true.1 h s (List.mem_of_getElem? hs)) _ he
  unfold aX at this
  rw[decide_eq_false (by omega),Bool.false_or,beq_iff_eq]at this
  exact bw this (by omega)
theorem ma {l:List Nat} {x:Nat} (h:x∈l):x<=bC l:=by
 induction l with
 |nil=>cases h
 |cons a l ih=>
  simp only[bC]
  rcases List.mem_cons.1 h with rfl|h
  ·omega
  ·have:=ih h;omega
theorem pk {k:Nat} (hk:1<=k) (hl:k<m.slots.length) (h2:br m.slots k=2) (hc:cnt m k≠0) {j:Nat} (hj:1<=j) (he:(j:Int)∈aK m.slots k) (h1:br m.slots j=1):cnt m j≠0:=by
 have ht:0<ax (am m) k:=by
  unfold cnt at hc
  rw[bV hk (by omega)]at hc;omega
 unfold cnt
 rw[eH hj h1]
 have hb:aN m.slots (am m) j k=bt (aK m.slots k) j:=by unfold aN;rw[if_pos ⟨h2,ht⟩]
 have hm:aN m.slots (am m) j k<=cF m.slots (am m) j m.slots.length:=by
  unfold cF
  refine ma (List.mem_map.2 ⟨k-1,List.mem_range.2 (by omega),?_⟩)
  rw[show k-1+1=k from by omega]
 have:=ii he
 omega
theorem pm (h:Sound m) {n:Nat} (hn:n<m.slots.length) (hc:cnt m n≠0):1<=n/\br m.slots n≠0:=by
 have h1:1<=n:=by
  rcases Nat.eq_zero_or_pos n with h0|h0
  ·subst h0;exact absurd (show cnt m 0=0 from rfl) hc
  ·exact h0
 refine⟨h1,λhk=>hc ?_⟩
 unfold cnt
 rw[bV h1 (by omega),li h.wired h1 hn (by omega)]
theorem DY:cnt m 0=0:=rfl
theorem rO {n:Nat} (hn:n<m.slots.length):cnt (ap m) n=cnt m n:=by
 rcases Nat.eq_zero_or_pos n with h0|h0
 ·subst h0;rfl
 ·have hrs:am (ap m)=am m:=rfl
  have hby:∀k,1<=k->k<m.slots.length->aN (ap m).slots (am m) n k=aN m.slots (am m) n k:=by
   intro k hk hl
   unfold aN
   rw[eJ hl,gW hl]
   by_cases hc:cnt m k=0
   ·rw[if_pos hc,if_pos hc,if_neg (λhh=>by omega),if_neg]
    intro hh
    have:=nl (m:=m) hk
    omega
   ·rw[if_neg hc,if_neg hc]
  have hsum:cF (ap m).slots (am m) n (ap m).slots.length=cF m.slots (am m) n m.slots.length:=by
   rw[bS]
   unfold cF
   refine cu (λi hi=>?_)
   have:=List.mem_range.1 hi
   exact hby (i+1) (by omega) (by omega)
  by_cases hc:cnt m n=0
  ·have ht:=nl (m:=m) h0
   have hk:br (ap m).slots n=0:=by rw[eJ hn,if_pos hc]
   rw[hc]
   unfold cnt
   rw[hrs,bV h0 (by omega)]
   omega
  ·have hk:br (ap m).slots n=br m.slots n:=by rw[eJ hn,if_neg hc]
   unfold cnt
   rw[hrs]
   by_cases h1:br m.slots n=1
   ·rw[eH h0 (hk.trans h1),eH h0 h1,hsum]
   ·rw[bV h0 (by omega),bV h0 h1]
theorem np:aM (ap m)=aM m:=by
 rw[bN,bN,bS]
 exact cr λj hj=>by exact congrArg Int.ofNat (rO hj)
theorem jg {e:Int} {c:Int} (hc:0<c) (hk:aQ m.slots e=c) (hn:∀k:Nat,e=k->cnt m k≠0):aQ (ap m).slots e=c:=by
 obtain⟨k,rfl,h1,h2,h3⟩:=bw hk (by omega)
 rw[dV h1 (by rw[bS];exact h2),eJ h2,if_neg (hn k rfl),h3]
theorem oN (h:Sound m):Sound (ap m):=by
 have hz:=dj h.sizes
 have hall:=bR h.slots
 have hmem:∀s∈(ap m).slots,∃n,n<m.slots.length/\((s=freeSlot)\/(cnt m n≠0/\m.slots[n]? =some s)):=by
  intro s hs
  obtain⟨n,hn,rfl⟩:=List.mem_iff_getElem.1 hs
  have hn':n<m.slots.length:=by rw[<-bS];exact hn
  refine⟨n,hn',?_⟩
  have:=ef (List.getElem?_eq_getElem hn')
  rw[List.getElem?_eq_getElem hn]at this
  injection this with this
  rw[this]
  split
  ·exact .inl rfl
  ·rename_i hc;exact .inr ⟨hc,List.getElem?_eq_getElem hn'⟩
 refine⟨?_,?_,h.names,h.guests,?_,?_⟩
 ·refine ev ⟨?_,?_,hz.2.2⟩
  ·rw[bS];exact hz.1
  ·rw[bS];exact hz.2.1
 ·unfold ar
  rw[bS,if_neg (by omega),if_pos,if_pos]
  ·have h0:br (ap m).slots 0=0:=by rw[eJ (by omega),if_pos DY]
   cases hm:(ap m).slots with
   |nil=>rfl
   |cons a l=>rw[hm]at h0;exact h0
  ·rw[List.all_eq_true]
   intro s hs
   obtain⟨n,hn,rfl|⟨_,hx⟩⟩:=hmem s hs
   ·rfl
   ·exact List.all_eq_true.1 hall s (List.mem_of_getElem? hx)
 ·unfold a8
  rw[List.all_eq_true]
  intro s hs
  obtain⟨n,hn,rfl|⟨hc,hx⟩⟩:=hmem s hs
  ·rfl
  ·rw[List.all_eq_true]
   intro e he
   have hok:=List.all_eq_true.1 (List.all_eq_true.1 h.tables s (List.mem_of_getElem? hx)) e he
   unfold aX at hok⊢
   rw[Bool.or_eq_true,decide_eq_true_eq,beq_iff_eq]at hok⊢
   rcases hok with h0|h1
   ·exact .inl h0
   ·right
    have hkn:=aL hx
    have h2:s.kind=2:=by
     apply Classical.byContradiction
     intro hn2
     rw[(rM h.slots (List.mem_of_getElem? hx)).2.2 hn2]at he
     cases he
    refine jg (by omega) h1 (λk ek=>?_)
    obtain⟨k',e1,k1,k2,k3⟩:=bw h1 (by omega)
    obtain rfl:k'=k:=by omega
    subst ek
    exact pk (pm h hn hc).1 hn (hkn.trans h2) hc k1 (by rw[db hx];exact he) k3
 ·have key:∀(g:Int) (r:List Int),r∈am m->rootFine m.slots g r=true->rootFine (ap m).slots g r=true:=by
   intro g r hr hf
   obtain⟨f1,f2⟩:=dW hf
   unfold rootFine
   rw[Bool.and_eq_true,decide_eq_true_eq,upto_iff]
   refine⟨f1,λk hk=>?_⟩
   have fk:=f2 k hk
   unfold rootAt at fk⊢
   rw[Bool.or_eq_true,Bool.and_eq_true,beq_iff_eq,beq_iff_eq]at fk⊢
   rcases fk with fk|⟨fk1,fk2⟩
   ·exact .inl fk
   ·right
    obtain⟨t,et,t1,t2,t3⟩:=bw fk1 (by omega)
    have hmr:(t:Int)∈r:=by
     rw[<-et];unfold int;rw[List.getD_eq_getElem?_getD,List.getElem?_eq_getElem hk];exact List.getElem_mem hk
    have hc:=nn hr hmr t1
    have hn:∀k':Nat,int r k=k'->cnt m k'≠0:=by
     intro k' ek
     have:k'=t:=by omega
     rw[this];exact hc
    refine⟨jg (by omega) fk1 hn,?_⟩
    rw[et]at fk2⊢
    have ht:bh (ap m).slots (t:Int)=bh m.slots (t:Int):=by
     have h1:=gW t2
     rw[if_neg hc]at h1
     unfold aK at h1
     unfold bh
     rw[Int.toNat_natCast]
     exact h1
    rw[ht]
    exact fk2
  have hro:=h.roots
  unfold bU at hro⊢
  rw[Bool.and_eq_true,List.all_eq_true]at hro⊢
  exact⟨key _ _ (List.mem_cons_self ..) hro.1,λs hs=>key _ _ (List.mem_cons_of_mem _ (List.mem_map.2 ⟨s,hs,rfl⟩)) (hro.2 s hs)⟩
theorem ft (h:Sound m):ab (ap m)=0:=by
 have hs:=oN h
 have hl:(ap m).refs.length=(ap m).slots.length:=by rw[bS];exact cO m
 refine lh (hs.shape hl) ?_
 rw[upto_iff]
 intro k hk
 rw[bS]at hk
 have hx:=ef (List.getElem?_eq_getElem hk)
 have hc:(aM (ap m))[k]? =some ((cnt m k:Nat):Int):=by rw[np];exact ig hk
 rw[lg (show(ap m).refs[k]? =some ((cnt m k:Nat):Int)from ig hk) hc hx,Bool.and_eq_true]
 refine⟨beq_self_eq_true _,?_⟩
 rw[beq_iff_eq,Bool.eq_iff_iff,beq_iff_eq,beq_iff_eq]
 by_cases h0:cnt m k=0
 ·rw[if_pos h0,h0];exact⟨λ_=>rfl,λ_=>rfl⟩
 ·rw[if_neg h0]
  have:=(pm h hk h0).2
  rw[aL (List.getElem?_eq_getElem hk)]at this
  exact⟨λe=>by omega,λe=>absurd e this⟩
theorem wY {s:Slot} (h:aD s=true) (hk:s.kind=0):s=freeSlot:=by
 unfold aD at h
 rw[if_pos hk,Bool.and_eq_true,beq_iff_eq,beq_iff_eq]at h
 obtain⟨k,d,t⟩:=s
 simp only at*
 subst hk
 have ht:t=[]:=List.eq_nil_of_length_eq_zero h.2
 subst ht
 unfold freeSlot
 congr 1
 obtain⟨a⟩:=d
 congr 1
 exact Array.eq_empty_of_size_eq_zero h.1
theorem nr (h:ab m=0):ap m=m:=by
 obtain⟨hs,hr⟩:=aq h
 have hS:=ay hs
 have hall:=bR hS.slots
 have hl:=(dI hs).1.refs
 obtain⟨g,root,slots,refs,snaps⟩:=m
 have hl':refs.length=slots.length:=hl
 have e1:(ap ⟨g,root,slots,refs,snaps⟩).refs=refs:=by
  show aM _=refs
  apply List.ext_getElem?
  intro k
  rcases Nat.lt_or_ge k slots.length with hk|hk
  ·have hx:(⟨g,root,slots,refs,snaps⟩:Img).slots[k]? =some slots[k]:=List.getElem?_eq_getElem hk
   have hrf:(⟨g,root,slots,refs,snaps⟩:Img).refs[k]? =some (refs[k]'(by omega)):=List.getElem?_eq_getElem (show k<refs.length by omega)
   have hc:=ig (m:=⟨g,root,slots,refs,snaps⟩) (n:=k) hk
   have:=uz h hrf hc hx
   rw[hc,<-this.1];exact hrf.symm
  ·rw[List.getElem?_eq_none (by rw[cO];exact hk),List.getElem?_eq_none (by omega)]
 have e2:(ap ⟨g,root,slots,refs,snaps⟩).slots=slots:=by
  apply List.ext_getElem?
  intro k
  rcases Nat.lt_or_ge k slots.length with hk|hk
  ·have hx:(⟨g,root,slots,refs,snaps⟩:Img).slots[k]? =some slots[k]:=List.getElem?_eq_getElem hk
   have hrf:(⟨g,root,slots,refs,snaps⟩:Img).refs[k]? =some (refs[k]'(by omega)):=List.getElem?_eq_getElem (show k<refs.length by omega)
   have hc:=ig (m:=⟨g,root,slots,refs,snaps⟩) (n:=k) hk
   have hri:=uz h hrf hc hx
   rw[ef hx]
   split
   ·rename_i h0
    have:slots[k]=freeSlot:=wY (List.all_eq_true.1 hall _ (List.getElem_mem hk)) (hri.2.2.1 (by rw[h0];rfl))
    rw[<-this];exact hx.symm
   ·exact hx.symm
  ·rw[List.getElem?_eq_none (by rw[bS];exact hk),List.getElem?_eq_none hk]
 show(⟨g,root,(ap ⟨g,root,slots,refs,snaps⟩).slots,(ap ⟨g,root,slots,refs,snaps⟩).refs,snaps⟩:Img)=_
 rw[e1,e2]
end Sl
namespace Sl
variable {m:Img}
def gN (m:Img) (k:Nat):Nat:=(List.range k).countP (λk=>int (aM m) k==0&&br m.slots k !=0)
theorem xK:qE m=gN m m.slots.length:=rfl
theorem qF (k:Nat):gN m (k+1)=gN m k+(if(int (aM m) k==0&&br m.slots k !=0)=true then 1 else 0):=by
 unfold gN;rw[List.range_succ,List.countP_append];simp[List.countP_cons]
theorem uC {k:Nat} {c:Int} {s:Slot} (hc:(aM m)[k]? =some c) (hs:m.slots[k]? =some s):gN m (k+1)=gN m k+(if(c==0&&s.kind !=0)=true then 1 else 0):=by
 rw[qF,aL hs]
 unfold int
 rw[List.getD_eq_getElem?_getD,hc];rfl
theorem qG:∀k,k<=m.slots.length->used (m.slots.take k)=used ((ap m).slots.take k)+gN m k:=by
 intro k
 induction k with
 |zero=>intro _;simp[used,gN]
 |succ k ih=>
  intro hk
  have hs:=List.getElem?_eq_getElem (show k<m.slots.length by omega)
  rw[bp _ k _ hs,bp _ k _ (ef hs),uC (ig (by omega)) hs,ih (by omega)]
  by_cases hc:cnt m k=0
  ·rw[if_pos hc,hc]
   have hf:freeSlot.kind=0:=rfl
   rw[if_pos hf]
   by_cases hk0:m.slots[k].kind=0
   ·have g:¬((((0:Nat):Int)==0&&m.slots[k].kind !=0)=true):=by rw[hk0];decide
    rw[if_pos hk0,if_neg g];rfl
   ·have g:(((0:Nat):Int)==0&&m.slots[k].kind !=0)=true:=by rw[Bool.and_eq_true];exact⟨rfl,by simpa using hk0⟩
    rw[if_neg hk0,if_pos g];omega
  ·rw[if_neg hc,if_neg (show¬((((cnt m k:Nat):Int)==0&&m.slots[k].kind !=0)=true)by simp;omega)];omega
theorem used_all:used m.slots=used (ap m).slots+qE m:=by
 have:=qG (m:=m) m.slots.length (Nat.le_refl _)
 rwa [List.take_of_length_le (Nat.le_refl _),List.take_of_length_le (by rw[bS];exact Nat.le_refl _),<-xK]at this
theorem lk {e:Int} (h:e<=0\/ ∃j:Nat,e=j/\j<m.slots.length/\cnt m j≠0):ch (ap m).slots e=ch m.slots e:=by
 rcases h with h|⟨j,rfl,hj,hc⟩
 ·rw[dX h,dX h]
 ·unfold ch
  rw[Int.toNat_natCast,ef (List.getElem?_eq_getElem hj),if_neg hc,List.getElem?_eq_getElem hj]
theorem oO (h:Sound m) {r:List Int} (hr:r∈am m) {n:Nat} (hn:n/4<r.length):
  ag (ap m).slots r n=ag m.slots r n/\ch (ap m).slots (ag m.slots r n)=ch m.slots (ag m.slots r n):=by
 have hmr:int r (n/4)∈r:=by unfold int;rw[List.getD_eq_getElem?_getD,List.getElem?_eq_getElem hn];exact List.getElem_mem hn
 rcases h.wired.roots r hr _ hmr with h0|h2
 ·have e1:∀l:List Slot,ag l r n=0:= λl=>by unfold ag;rw[if_neg (by omega)]
  rw[e1,e1]
  exact⟨rfl,lk (.inl (by omega))⟩
 ·obtain⟨t,et,t1,t2,t3⟩:=bw h2 (by omega)
  rw[et]at hmr
  have hc:=nn hr hmr t1
  have ht:bh (ap m).slots (t:Int)=bh m.slots (t:Int):=by
   have h1:=gW t2
   rw[if_neg hc]at h1
   unfold aK at h1
   unfold bh
   rw[Int.toNat_natCast]
   exact h1
  have e1:∀l:List Slot,ag l r n=int (bh l t) (n%4):= λl=>by unfold ag;rw[et,if_pos (by omega)]
  rw[e1,e1,ht]
  refine⟨rfl,lk ?_⟩
  rcases Int.lt_or_le 0 (int (bh m.slots t) (n%4))with hp|hp
  ·right
   have hm:int (bh m.slots t) (n%4)∈aK m.slots t:=by
    have e2:bh m.slots (t:Int)=aK m.slots t:=by unfold bh aK;rw[Int.toNat_natCast]
    rw[e2]at hp⊢
    unfold int at hp⊢
    rw[List.getD_eq_getElem?_getD]at hp⊢
    cases hx:(aK m.slots t)[n%4]? with
    |none=>rw[hx]at hp;simp at hp
    |some y=>exact List.mem_of_getElem? hx
   obtain⟨j,ej,j1,j2,j3⟩:=uB h.tables hm hp
   rw[ej]at hm
   exact⟨j,ej,j2,pk t1 t2 t3 hc j1 hm j3⟩
  ·exact .inl hp
end Sl
namespace Sl
def laid (l:List Slot) (n:Nat) (s:Slot):List Slot:=if n=l.length then l++[s]else l.set n s
def af (m:Img) (k:Nat):List Int:=if 0<int m.root k then bh m.slots (int m.root k)else[0,0,0,0]
def aC (t:List Int):Slot:=⟨2,{data:=#[]},t⟩
def bF (p:ByteArray):Slot:=⟨1,p,[]⟩
def gu (m:Img) (k:Nat):Bool:=decide (0<int m.root k)&&int m.refs (int m.root k).toNat==1
def fT (m:Img) (k:Nat) (t:List Int):Option Img:=
 if t=af m k then some m
 else if bare t=true then some {m with root:=m.root.set k 0}
 else if gu m k=true then some {m with slots:=m.slots.set (int m.root k).toNat (aC t)}
 else if aS m.slots=0 then none
 else some {m with slots:=laid m.slots (aS m.slots) (aC t),root:=m.root.set k (aS m.slots:Nat)}
def dP (m:Img) (n:Nat) (e:Int):Option Img:=fT m (n/4) ((af m (n/4)).set (n%4) e)
def cv (m:Img) (n:Nat) (p:ByteArray):Option Img:=
 let k:=n/4
 let e:=ag m.slots m.root n
 if gu m k=true/\0<e/\int m.refs e.toNat=1 then some {m with slots:=m.slots.set e.toNat {(m.slots.getD e.toNat freeSlot)with data:=p}}
 else if gu m k=true then
  (if aS m.slots=0 then none
   else some {m with slots:=(laid m.slots (aS m.slots) (bF p)).set (int m.root k).toNat {((laid m.slots (aS m.slots) (bF p)).getD (int m.root k).toNat freeSlot)with table:=(af m k).set (n%4) (aS m.slots:Nat)}})
 else
  (if aS m.slots=0 then none
   else if aS (laid m.slots (aS m.slots) (aC [-1,0,0,0]))=0 then none
   else some {m with root:=m.root.set k (aS m.slots:Nat),
                     slots:=(laid (laid m.slots (aS m.slots) (aC [-1,0,0,0])) (aS (laid m.slots (aS m.slots) (aC [-1,0,0,0]))) (bF p)).set (aS m.slots)
                      (aC ((af m k).set (n%4) (aS (laid m.slots (aS m.slots) (aC [-1,0,0,0])):Nat)))})
def bW (m:Img) (g:Nat):Option Img:=
 ((if 0<g%4/\g/4<m.root.length then fT m (g/4) ((af m (g/4)).take (g%4)++List.replicate (4-g%4) 0)else some m)).map
  (λx=>{x with guest:=g,root:=(x.root++List.replicate 16 0).take (a6 g).toNat})
end Sl
namespace Go.Proofs.YtdbneghfbkjinaaGreatDoor
open Go.RowKit Sl
theorem aa {w W W':World} (h:Below w.heap.size w W) (h':Below W.heap.size W W'):Below w.heap.size w W':=h.trans (h'.mono h.size)
def Rd (w:World) (B size:Nat) (A:Option Addr) (n:Nat) (cs:List Value):Prop:=
 cs.length=n*size/\(0<n->∃b o,A=some ⟨b,o,none⟩/\b<B/\ ∀j u,cs[j]? =some u->w.cell? ⟨b,o+j,none⟩=some u)
def ah (xs:List Int):List Value:=xs.map (Value.int .i64)
section
variable {w w':World} {B B' size n c k:Nat} {A:Option Addr} {cs:List Value} {xs:List Int}
theorem Rd.keep (h:Rd w B size A n cs) (hk:∀p:Addr,p.block<B->w'.cell? p=w.cell? p):Rd w' B size A n cs:=
 ⟨h.1,λhn=>by
  obtain⟨b,o,e,hb,hc⟩:=h.2 hn
  exact⟨b,o,e,hb,λj u hu=>(hk _ hb).trans (hc j u hu)⟩⟩
theorem Rd.more (h:Rd w B size A n cs) (hB:B<=B'):Rd w B' size A n cs:=
 ⟨h.1,λhn=>by
  obtain⟨b,o,e,hb,hc⟩:=h.2 hn
  exact⟨b,o,e,by omega,hc⟩⟩
theorem Rd.below {M:Nat} (h:Rd w B size A n cs) (hb:Below M w w') (hM:B<=M):Rd w' B size A n cs:=h.keep λ_ hp=>hb.cell (by omega)
theorem Rd.none_:Rd w B size A 0 []:=⟨by simp,λh=>absurd h (by omega)⟩
theorem Rd.len (h:Rd w B 1 A n (ah xs)):xs.length=n:=by have:=h.1;simp[ah]at this;omega
theorem Rd.at1 (h:Rd w B 1 A n (ah xs)) (hk:k<n):
  ∃b o x,A=some ⟨b,o,none⟩/\b<B/\xs[k]? =some x/\w.cell? ⟨b,o+k,none⟩=some (.int .i64 x):=by
 obtain⟨b,o,e,hb,hc⟩:=h.2 (by omega)
 have hl:k<xs.length:=by rw[h.len];exact hk
 exact⟨b,o,xs[k],e,hb,List.getElem?_eq_getElem hl,hc k _ (by simp[ah,hl])⟩
end
structure SlotV (w:World) (B:Nat) (s:Slot) (A:Option Addr) (n c:Nat):Prop where
 data:s.data.size<=4611686018427387903
 len:n<=c
 cap:n<=4611686018427387903/\c<=9223372036854775807
 table:Rd w B 1 A n (ah s.table)
def bE (s:Slot) (A:Option Addr) (n c:Nat):List Value:=[.int .i64 s.kind,.string s.data,.slice A n c]
def SlotAt (w:World) (B b o:Nat) (s:Slot):Prop:=
 ∃A n c,w.cell? ⟨b,o,none⟩=some (.int .i64 s.kind)/\w.cell? ⟨b,o+1,none⟩=some (.string s.data)/\w.cell? ⟨b,o+2,none⟩=some (.slice A n c)/\SlotV w B s A n c
def SlotsR (w:World) (B:Nat) (A:Option Addr) (n:Nat) (l:List Slot):Prop:=
 l.length=n/\(0<n->∃b o,A=some ⟨b,o,none⟩/\b<B/\ ∀k s,l[k]? =some s->SlotAt w B b (o+k*3) s)
section
variable {w w':World} {B B' M n c k b o:Nat} {A:Option Addr} {l:List Slot} {s:Slot}
theorem SlotV.keep (h:SlotV w B s A n c) (hk:∀p:Addr,p.block<B->w'.cell? p=w.cell? p):SlotV w' B s A n c:=⟨h.data,h.len,h.cap,h.table.keep hk⟩
theorem SlotV.more (h:SlotV w B s A n c) (hB:B<=B'):SlotV w B' s A n c:=⟨h.data,h.len,h.cap,h.table.more hB⟩
theorem SlotV.below (h:SlotV w B s A n c) (hb:Below M w w') (hM:B<=M):SlotV w' B s A n c:=⟨h.data,h.len,h.cap,h.table.below hb hM⟩
theorem SlotAt.keep (h:SlotAt w B b o s) (ha:b<B) (hk:∀p:Addr,p.block<B->w'.cell? p=w.cell? p):SlotAt w' B b o s:=by
 obtain⟨A,n,c,h0,h1,h2,hr⟩:=h
 exact⟨A,n,c,by rw[hk _ ha];exact h0,by rw[hk _ ha];exact h1,by rw[hk _ ha];exact h2,hr.keep hk⟩
theorem SlotAt.more (h:SlotAt w B b o s) (hB:B<=B'):SlotAt w B' b o s:=by
 obtain⟨A,n,c,h0,h1,h2,hr⟩:=h
 exact⟨A,n,c,h0,h1,h2,hr.more hB⟩
theorem SlotsR.keep (h:SlotsR w B A n l) (hk:∀p:Addr,p.block<B->w'.cell? p=w.cell? p):SlotsR w' B A n l:=
 ⟨h.1,λhn=>by
  obtain⟨b,o,e,hb,hc⟩:=h.2 hn
  exact⟨b,o,e,hb,λj u hu=>(hc j u hu).keep hb hk⟩⟩
theorem SlotsR.more (h:SlotsR w B A n l) (hB:B<=B'):SlotsR w B' A n l:=
 ⟨h.1,λhn=>by
  obtain⟨b,o,e,hb,hc⟩:=h.2 hn
  exact⟨b,o,e,by omega,λj u hu=>(hc j u hu).more hB⟩⟩
theorem SlotsR.below (h:SlotsR w B A n l) (hb:Below M w w') (hM:B<=M):SlotsR w' B A n l:=h.keep λ_ hp=>hb.cell (by omega)
theorem SlotsR.at_ (h:SlotsR w B A n l) (hk:k<n):
  ∃b o s tA tn tc,A=some ⟨b,o,none⟩/\b<B/\l[k]? =some s/\w.cell? ⟨b,o+k*3,none⟩=some (.int .i64 s.kind)/\w.cell? ⟨b,o+k*3+1,none⟩=some (.string s.data)/\
   w.cell? ⟨b,o+k*3+2,none⟩=some (.slice tA tn tc)/\SlotV w B s tA tn tc:=by
 obtain⟨b,o,e,hb,hc⟩:=h.2 (by omega)
 have hl:k<l.length:=by rw[h.1];exact hk
 obtain⟨tA,tn,tc,h0,h1,h2,h3⟩:=hc k _ (List.getElem?_eq_getElem hl)
 exact⟨b,o,l[k],tA,tn,tc,e,hb,List.getElem?_eq_getElem hl,h0,h1,h2,h3⟩
end
theorem SlotsR.take {w:World} {B n k:Nat} {A:Option Addr} {l:List Slot} (h:SlotsR w B A n l) (hk:k<=n):SlotsR w B A k (l.take k):=by
 refine⟨by rw[List.length_take,h.1];omega,λhp=>?_⟩
 obtain⟨b,o,e,hb,hc⟩:=h.2 (by omega)
 exact⟨b,o,e,hb,λj s hs=>hc j s (by rw[List.getElem?_take]at hs;split at hs<;>simp_all)⟩
theorem Rd.take {w:World} {B size n k:Nat} {A:Option Addr} {cs:List Value} (h:Rd w B size A n cs) (hk:k<=n):Rd w B size A k (cs.take (k*size)):=by
 refine⟨by rw[List.length_take,h.1];have:=Nat.mul_le_mul_right size hk;omega,λhp=>?_⟩
 obtain⟨b,o,e,hb,hc⟩:=h.2 (by omega)
 exact⟨b,o,e,hb,λj s hs=>hc j s (by rw[List.getElem?_take]at hs;split at hs<;>simp_all)⟩
theorem Rd.of_block {w:World} {B size n b:Nat} {cs:List Value} {arr:Array Value} {T:TypeId} {fz:Nat×Nat} (hb:w.heap[b]? =some (.cells arr T fz)) (hB:b<B) (harr:arr.toList=cs) (hl:cs.length=n*size):Rd w B size (some ⟨b,0,none⟩) n cs:=by
 refine⟨hl,λ_=>⟨b,0,rfl,hB,λj u hu=>?_⟩⟩
 rw[cell_of_row _ _ _ _ _ _ hb,Nat.zero_add,<-Array.getElem?_toList,harr]
 exact hu
structure SV where
 s:Slot
 A:Option Addr
 n:Nat
 c:Nat
def SV.cells (x:SV):List Value:=bE x.s x.A x.n x.c
theorem SlotsR.none_ {w:World} {B:Nat} {A:Option Addr}:SlotsR w B A 0 []:=⟨rfl,λh=>absurd h (by omega)⟩
def rP (A:Option Addr) (c k size:Nat):Option Addr:=if c=k then A else A.map (·.add (k*size))
theorem rQ {P:Program} (T E:TypeId) (size:Nat) (hT:P.underlying T=some (.slice E)) (hs:∀W:World,(sizeOf E).run P W=.ok size W) (A:Option Addr) (n c k:Nat) (hk:k<=n) (W:World):
  (Instr.slice T (.slice A n c) (some (.int .i64 (k:Int))) none none).run P W=.ok (.slice (rP A c k size) (n-k) (c-k)) W:=by
 have hE:P.elem T=E:=by simp[Program.elem,hT]
 rw[run_slice_l (P:=P) (w:=W) T A n c (by rw[hE];exact hT) .i64 k (by omega) (by omega),hE,hs]
 simp[sliced,rP,Result.andThen]
theorem Rd.cut {w:World} {B size n c k:Nat} {A:Option Addr} {cs:List Value} (h:Rd w B size A n cs) (hk:k<=n) (hn:n<=c):Rd w B size (rP A c k size) (n-k) (cs.drop (k*size)):=by
 refine⟨by rw[List.length_drop,h.1,Nat.sub_mul],λhp=>?_⟩
 obtain⟨b,o,rfl,hb,hc⟩:=h.2 (by omega)
 refine⟨b,o+k*size,?_,hb,λj u hu=>?_⟩
 ·unfold rP;rw[if_neg (by omega)]
  unfold Addr.add
  by_cases h0:k*size=0<;>simp[h0]
 ·rw[List.getElem?_drop]at hu
  rw[Nat.add_assoc];exact hc _ u hu
theorem SlotsR.cut {w:World} {B n c k:Nat} {A:Option Addr} {l:List Slot} (h:SlotsR w B A n l) (hk:k<=n) (hn:n<=c):SlotsR w B (rP A c k 3) (n-k) (l.drop k):=by
 refine⟨by rw[List.length_drop,h.1],λhp=>?_⟩
 obtain⟨b,o,rfl,hb,hc⟩:=h.2 (by omega)
 refine⟨b,o+k*3,?_,hb,λj u hu=>?_⟩
 ·unfold rP;rw[if_neg (by omega)]
  unfold Addr.add
  by_cases h0:k*3=0<;>simp[h0]
 ·rw[List.getElem?_drop]at hu
  have:=hc _ u hu
  rwa [show o+(k+j)*3=o+k*3+j*3 from by omega]at this
theorem aH {a b:Bool} (h:b=a):Ending.returned (.bool a)=.returned (.bool b):=by rw[h]
theorem aw {k:IntKind} {a b:Int} (h:b=a):Ending.returned (.int k a)=.returned (.int k b):=by rw[h]
theorem zX {a b:Bool} {x y:Int} (h:b=a) (h':y=x):Ending.returned (.tuple #[.bool a,.int .i64 x])=.returned (.tuple #[.bool b,.int .i64 y]):=by rw[h,h']
theorem iy {a b:Int} {x y:Int} (h:b=a) (h':y=x):Ending.returned (.tuple #[.int .i64 a,.int .i64 x])=.returned (.tuple #[.int .i64 b,.int .i64 y]):=by rw[h,h']
theorem zY {a b:ByteArray} {x y:Int} (h:b=a) (h':y=x):Ending.returned (.tuple #[.string a,.int .i64 x])=.returned (.tuple #[.string b,.int .i64 y]):=by rw[h,h']
theorem bf {α:Type} (p:α->Bool) (l:List α) (k:Nat) (x:α) (hx:l[k]? =some x):(l.take (k+1)).all p=((l.take k).all p&&p x):=by
 rw[List.take_add_one,hx]
 simp
theorem dA {α:Type} (p:α->Bool) (l:List α) (k:Nat) (x:α) (hx:l[k]? =some x) (hp:p x=false):l.all p=false:=by
 rw[List.all_eq_false]
 exact⟨x,List.mem_of_getElem? hx,by simp[hp]⟩
theorem cP {α:Type} (p:α->Bool) (l:List α) (k:Nat) (hk:l.length<=k) (h:(l.take k).all p=true):l.all p=true:=by
 rwa [List.take_of_length_le hk]at h
end Go.Proofs.YtdbneghfbkjinaaGreatDoor
