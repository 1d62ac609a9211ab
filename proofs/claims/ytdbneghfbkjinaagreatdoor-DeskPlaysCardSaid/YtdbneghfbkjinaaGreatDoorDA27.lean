/- Texts of the proof of deskPlays_holds: PurePk. Conditions: as each text says. -/
import Derived.Test.YtdbneghfbkjinaaGreatDoorDA1
import Derived.Test.YtdbneghfbkjinaaGreatDoorDA26
set_option maxRecDepth 100000
set_option maxHeartbeats 400000
namespace Go.Proofs.YtdbneghfbkjinaaGreatDoor
section
open Sl
def ci (s:Slot):Bool:= !(s.kind==0)
def ren (l:List Slot) (e:Int):Int:=if e<=0 then e else((used (l.take e.toNat)+1:Nat):Int)
def eV (l:List Slot) (s:Slot):Slot:={s with table:=s.table.map (ren l)}
def ja (l:List Slot) (s:Snap):Snap:={s with root:=s.root.map (ren l)}
def di (l:List Slot):List Slot:=freeSlot::(l.filter ci).map (eV l)
def dN (l:List Slot) (f:List Int):List Int:=0::((l.zip f).filter (λx=>ci x.1)).map (·.2)
def cL (m:Img):Img:=⟨m.guest,m.root.map (ren m.slots),di m.slots,dN m.slots m.refs,m.snaps.map (ja m.slots)⟩
section
variable {l:List Slot}
theorem eR {s:Slot} (h:s.kind≠0):ci s=true:=by unfold ci;simpa using h
theorem iP {s:Slot} (h:s.kind=0):ci s=false:=by unfold ci;simp[h]
theorem oa (l:List Slot):(l.filter ci).length=used l:=by
 induction l with
 |nil=>rfl
 |cons a l ih=>
  by_cases h:a.kind=0
  ·rw[List.filter_cons_of_neg (by rw[iP h];decide),ih];simp[used,h]
  ·rw[List.filter_cons_of_pos (eR h),List.length_cons,ih];simp[used,h];omega
theorem yK:∀(l:List Slot) (n:Nat) (s:Slot),l[n]? =some s->s.kind≠0->(l.filter ci)[used (l.take n)]? =some s:=by
 intro l
 induction l with
 |nil=>intro n s h;simp at h
 |cons a l ih=>
  intro n s h hk
  cases n with
  |zero=>
   simp at h;subst h
   rw[List.filter_cons_of_pos (eR hk)];rfl
  |succ n=>
   have h':l[n]? =some s:=by simpa using h
   have:=ih n s h' hk
   by_cases ha:a.kind=0
   ·rw[List.filter_cons_of_neg (by rw[iP ha];decide),List.take_succ_cons]
    simpa[used,ha]using this
   ·rw[List.filter_cons_of_pos (eR ha),List.take_succ_cons]
    have e:used (a::l.take n)=used (l.take n)+1:=by simp[used,ha];omega
    rw[e];simpa using this
theorem sX:∀(l:List Slot) (j:Nat) (s:Slot),(l.filter ci)[j]? =some s->∃n,l[n]? =some s/\s.kind≠0/\used (l.take n)=j:=by
 intro l
 induction l with
 |nil=>intro j s h;simp at h
 |cons a l ih=>
  intro j s h
  by_cases ha:a.kind=0
  ·rw[List.filter_cons_of_neg (by rw[iP ha];decide)]at h
   obtain⟨n,h1,h2,h3⟩:=ih j s h
   exact⟨n+1,by simpa using h1,h2,by rw[List.take_succ_cons];simp[used,ha,h3]⟩
  ·rw[List.filter_cons_of_pos (eR ha)]at h
   cases j with
   |zero=>simp at h;subst h;exact⟨0,rfl,ha,rfl⟩
   |succ j=>
    obtain⟨n,h1,h2,h3⟩:=ih j s (by simpa using h)
    exact⟨n+1,by simpa using h1,h2,by rw[List.take_succ_cons];simp[used,ha,h3];omega⟩
theorem sY (a b:List Slot):used (a++b)=used a+used b:=by
 induction a with
 |nil=>simp[used]
 |cons x a ih=>simp only[List.cons_append,used,ih];omega
theorem pY {n k:Nat} (h:n<=k):used (l.take n)<=used (l.take k):=by
 have e:l.take k=l.take n++(l.take k).drop n:=by
  have:=List.take_append_drop n (l.take k)
  rw[List.take_take,Nat.min_eq_left h]at this
  exact this.symm
 rw[e,sY];omega
theorem rh {n k:Nat} {s:Slot} (hs:l[n]? =some s) (hk:s.kind≠0) (h:n<k):used (l.take n)<used (l.take k):=by
 have h1:=bp l n s hs
 rw[if_neg hk]at h1
 have h2:=pY (l:=l) (n:=n+1) (k:=k) h
 omega
theorem sZ {n:Nat}:used (l.take n)<=used l:=by
 have:=pY (l:=l) (n:=n) (k:=max n l.length) (by omega)
 rwa [List.take_of_length_le (l:=l) (i:=max n l.length) (by omega)]at this
theorem vB {n:Nat} {s:Slot} (hs:l[n]? =some s) (hk:s.kind≠0):used (l.take n)<used l:=by
 have h1:=bp l n s hs
 rw[if_neg hk]at h1
 have:=sZ (l:=l) (n:=n+1)
 omega
theorem ke {e:Int} (h:e<=0):ren l e=e:=by unfold ren;rw[if_pos h]
theorem ren_zero:ren l 0=0:=ke (Int.le_refl _)
theorem gc {n:Nat} (h:1<=n):ren l (n:Nat)=((used (l.take n)+1:Nat):Int):=by unfold ren;rw[if_neg (by omega),Int.toNat_natCast]
theorem CD {e:Int}:0<ren l e↔0<e:=by
 unfold ren
 split
 ·rfl
 ·omega
theorem ren_le {e:Int}:ren l e<=0↔e<=0:=by
 have:=CD (l:=l) (e:=e)
 omega
theorem ren_eq0 {e:Int}:ren l e=0↔e=0:=by
 unfold ren
 split
 ·rfl
 ·omega
def hH (l:List Slot) (e:Int):Prop:=e<=0\/ ∃n s,e=(n:Nat)/\1<=n/\l[n]? =some s/\s.kind≠0
theorem xv {x y:Int} (hx:hH l x) (hy:hH l y) (h:ren l x=ren l y):x=y:=by
 rcases hx with hx|⟨n,s,rfl,h1,h2,h3⟩
 ·have:=(ren_le (l:=l) (e:=x)).2 hx
  have hy':y<=0:=(ren_le (l:=l)).1 (by omega)
  rw[ke hx,ke hy']at h
  exact h
 ·rcases hy with hy|⟨k,t,rfl,k1,k2,k3⟩
  ·have:=(ren_le (l:=l) (e:=(n:Nat))).1 (by rw[h];exact ren_le.2 hy)
   omega
  ·rw[gc h1,gc k1]at h
   rcases Nat.lt_trichotomy n k with hh|hh|hh
   ·have:=rh h2 h3 hh;omega
   ·rw[hh]
   ·have:=rh k2 k3 hh;omega
theorem jC:(di l).length=used l+1:=by unfold di;rw[List.length_cons,List.length_map,oa]
theorem lM {n:Nat} {s:Slot} (hs:l[n]? =some s) (hk:s.kind≠0):(di l)[used (l.take n)+1]? =some (eV l s):=by
 unfold di
 rw[List.getElem?_cons_succ,List.getElem?_map,yK l n s hs hk];rfl
theorem yL {j:Nat} {t:Slot} (h:(di l)[j+1]? =some t):∃n s,l[n]? =some s/\s.kind≠0/\used (l.take n)=j/\t=eV l s:=by
 unfold di at h
 rw[List.getElem?_cons_succ,List.getElem?_map]at h
 cases hx:(l.filter ci)[j]? with
 |none=>rw[hx]at h;cases h
 |some s=>
  rw[hx]at h
  obtain⟨n,h1,h2,h3⟩:=sX l j s hx
  injection h with h
  exact⟨n,s,h1,h2,h3,h.symm⟩
theorem gH {e c:Int} (hk:aQ l e=c) (hc:0<c):∃(n:Nat) (s:Slot),e=n/\1<=n/\l[n]? =some s/\s.kind=c:=by
 obtain⟨k,rfl,k1,k2,k3⟩:=bw hk (by omega)
 have hx:=List.getElem?_eq_getElem k2
 rw[aL hx]at k3
 exact⟨k,_,rfl,k1,hx,k3⟩
theorem td {e c:Int} (hk:aQ l e=c) (hc:0<c):hH l e:=by
 obtain⟨n,s,e1,e2,e3,e4⟩:=gH hk hc
 exact .inr ⟨n,s,e1,e2,e3,by omega⟩
theorem Be {e:Int} (h:aX l e=true):hH l e:=by
 rcases eM h with h|⟨_,h⟩
 ·exact .inl h
 ·exact td h (by omega)
theorem pZ {e c:Int} (hk:aQ l e=c) (hc:0<c):aQ (di l) (ren l e)=c:=by
 obtain⟨n,s,rfl,n1,hs,hk⟩:=gH hk hc
 have hp:=lM hs (by omega)
 have hl:=(zl hp)
 rw[gc n1,dV (by omega) hl,aL hp];exact hk
theorem vC {e:Int} (hk:aQ l e=2):bh (di l) (ren l e)=(bh l e).map (ren l):=by
 obtain⟨n,s,rfl,n1,hs,hk⟩:=gH hk (by omega)
 have hp:=lM hs (by omega)
 rw[gc n1,bP hp,bP hs];rfl
theorem xw (r:List Int) (k:Nat):int (r.map (ren l)) k=ren l (int r k):=by
 unfold int
 rw[List.getD_eq_getElem?_getD,List.getElem?_map,List.getD_eq_getElem?_getD]
 cases r[k]? with
 |none=>exact ren_zero.symm
 |some x=>rfl
theorem CE {e:Int} (h:aX l e=true):aX (di l) (ren l e)=true:=by
 rcases eM h with h|⟨_,h⟩
 ·exact i6 (.inl (ren_le.2 h))
 ·exact i6 (.inr (pZ h (by omega)))
theorem te {r:List Int} {x:Int} (h:∀y∈r,ren l y=ren l x->y=x):bt (r.map (ren l)) (ren l x)=bt r x:=by
 unfold bt
 rw[List.countP_map]
 apply List.countP_congr
 intro y hy
 simp only[Function.comp,beq_iff_eq]
 exact⟨h y hy,λe=>by rw[e]⟩
theorem tf {ls:List (List Int)} {x:Int} (h:∀r∈ls,∀y∈r,ren l y=ren l x->y=x):ax (ls.map (List.map (ren l))) (ren l x)=ax ls x:=by
 unfold ax
 rw[List.map_map]
 congr 1
 exact List.map_congr_left λr hr=>te (h r hr)
end
section
variable {m:Img}
theorem ri:am (cL m)=(am m).map (List.map (ren m.slots)):=by
 unfold am cL
 rw[List.map_cons,List.map_map,List.map_map]
 rfl
theorem gI (S:Sound m) {r:List Int} (hr:r∈am m) {e:Int} (he:e∈r):hH m.slots e:=by
 obtain⟨q,hq,rfl⟩:=mP he
 rcases dn S.wired hr q with h0|h2
 ·exact .inl (by omega)
 ·exact td h2 (by omega)
theorem jD (S:Sound m) {s:Slot} (hs:s∈m.slots) {e:Int} (he:e∈s.table):hH m.slots e:=Be (List.all_eq_true.1 (List.all_eq_true.1 S.tables s hs) e he)
theorem fp (S:Sound m):m.slots.head? =some freeSlot:=by
 have h0:=lL S.slots
 have hl:=(aJ S.slots).1
 have hx:=List.getElem?_eq_getElem (show 0<m.slots.length by omega)
 rw[aL hx]at h0
 have hf:=List.all_eq_true.1 (bR S.slots) _ (List.getElem_mem (show 0<m.slots.length by omega))
 rw[List.head?_eq_getElem?,hx,wY hf h0]
theorem gU (S:Sound m):used m.slots+1<=m.slots.length:=by
 have h:=fp S
 cases hs:m.slots with
 |nil=>rw[hs]at h;cases h
 |cons a l=>
  rw[hs]at h
  injection h with h
  subst h
  have:=fY l
  simp only[used,List.length_cons,freeSlot]
  simp;omega
theorem Bf (S:Sound m) {e:Int} (h:aX m.slots e=true) (hf:cV e=true):cV (ren m.slots e)=true:=by
 unfold cV at hf⊢
 simp only[Bool.and_eq_true,decide_eq_true_eq]at hf⊢
 rcases eM h with h0|⟨_,h1⟩
 ·rw[ke h0];exact hf
 ·obtain⟨n,s,rfl,n1,hs,hk⟩:=gH h1 (by omega)
  rw[gc n1]
  have:=vB hs (by omega)
  have:=gU S
  have:=(aJ S.slots).2
  omega
theorem yM (S:Sound m) {s:Slot} (hm:s∈m.slots) (hk:s.kind≠0):aD (eV m.slots s)=true:=by
 have hf:aD s=true:=List.all_eq_true.1 (bR S.slots) _ hm
 have ht:=List.all_eq_true.1 S.tables s hm
 unfold aD at hf⊢
 have ek:(eV m.slots s).kind=s.kind:=rfl
 have ed:(eV m.slots s).data=s.data:=rfl
 have et:(eV m.slots s).table=s.table.map (ren m.slots):=rfl
 rw[ek,ed,et,List.length_map]
 rw[if_neg hk]at hf⊢
 split at hf
 ·rename_i h1;rw[if_pos h1];exact hf
 ·rename_i h1
  rw[if_neg h1]
  split at hf
  ·rename_i h2
   rw[if_pos h2]
   simp only[Bool.and_eq_true,beq_iff_eq,Bool.not_eq_true']at hf⊢
   obtain⟨⟨f1,f2⟩,f3⟩:=hf
   obtain⟨f4,f5⟩:=aU f2
   refine⟨⟨f1,?_⟩,?_⟩
   ·unfold ak
    rw[if_pos (by rw[List.length_map];exact f4),if_pos]
    rw[List.all_map]
    refine List.all_eq_true.2 λe he=>?_
    exact Bf S (List.all_eq_true.1 ht e he) (List.all_eq_true.1 f5 e he)
   ·unfold bare at f3⊢
    rw[List.all_map,<-f3]
    apply Bool.eq_iff_iff.2
    simp only[List.all_eq_true,Function.comp,beq_iff_eq,ren_eq0]
  ·cases hf
theorem oY (S:Sound m):ar (di m.slots)=0:=by
 have h1:=gU S
 have h2:=(aJ S.slots).2
 unfold ar
 rw[if_neg (by rw[jC];omega),if_pos,if_pos (show pf (di m.slots)=0 from rfl)]
 refine List.all_eq_true.2 λt ht=>?_
 unfold di at ht
 rcases List.mem_cons.1 ht with rfl|ht
 ·rfl
 ·obtain⟨s,hs,rfl⟩:=List.mem_map.1 ht
  obtain⟨hs1,hs2⟩:=List.mem_filter.1 hs
  exact yM S hs1 (by unfold ci at hs2;simpa using hs2)
theorem ti (S:Sound m):a8 (di m.slots)=true:=by
 refine List.all_eq_true.2 λt ht=>List.all_eq_true.2 λe he=>?_
 unfold di at ht
 rcases List.mem_cons.1 ht with rfl|ht
 ·cases he
 ·obtain⟨s,hs,rfl⟩:=List.mem_map.1 ht
  obtain⟨hs1,_⟩:=List.mem_filter.1 hs
  obtain⟨y,hy,rfl⟩:=List.mem_map.1 he
  exact CE (List.all_eq_true.1 (List.all_eq_true.1 S.tables s hs1) y hy)
theorem kr {l:List Slot} {g:Int} {r:List Int} (h:rootFine l g r=true):rootFine (di l) g (r.map (ren l))=true:=by
 obtain⟨h1,h2⟩:=dY h
 refine jn (by rw[List.length_map];exact h1) λk hk=>?_
 rw[List.length_map]at hk
 have:=h2 k hk
 unfold rootAt at this⊢
 rw[xw]
 simp only[Bool.or_eq_true,Bool.and_eq_true,beq_iff_eq]at this⊢
 rcases this with h0|⟨h3,h4⟩
 ·exact .inl (ren_eq0.2 h0)
 ·refine .inr ⟨pZ h3 (by omega),?_⟩
  rw[vC h3]
  rw[upto_iff]at h4⊢
  intro i hi
  have:=h4 i hi
  rw[xw]
  simp only[Bool.or_eq_true,decide_eq_true_eq,beq_iff_eq]at this⊢
  exact this.imp id ren_eq0.2
theorem mQ (l:List Slot) (p:List Snap) (k:Nat):(eF (p.map (ja l)) k).name=(eF p k).name:=by
 unfold eF
 rw[List.getD_eq_getElem?_getD,List.getElem?_map,List.getD_eq_getElem?_getD]
 cases p[k]? <;>rfl
theorem vD (S:Sound m):Sound (cL m):=by
 refine⟨?_,oY S,?_,?_,ti S,?_⟩
 ·have:=dj S.sizes
  have:=gU S
  refine ev ⟨?_,?_,?_⟩
  ·show 1<=(di m.slots).length;rw[jC];omega
  ·show(di m.slots).length<=40;rw[jC];omega
  ·show(m.snaps.map _).length<=3;rw[List.length_map];omega
 ·have:=S.names
  unfold cq at this⊢
  show upto (da (m.snaps.map _)) (m.snaps.map _).length=true
  rw[List.length_map,<-this]
  apply ux
  intro k _
  unfold da
  rw[mQ,mQ]
 ·have:=S.guests
  unfold aV at this⊢
  simp only[Bool.and_eq_true]at this⊢
  refine⟨this.1,?_⟩
  show(m.snaps.map _).all _=true
  rw[List.all_map];exact this.2
 ·have:=S.roots
  unfold bU at this⊢
  simp only[Bool.and_eq_true]at this⊢
  refine⟨kr this.1,?_⟩
  show(m.snaps.map _).all _=true
  rw[List.all_map]
  refine List.all_eq_true.2 λs hs=>?_
  exact kr (List.all_eq_true.1 this.2 s hs)
theorem Bg {l:List Slot} {f g:Nat->Nat} (h0:∀n s,l[n]? =some s->s.kind=0->f n=0) (h1:∀n s,l[n]? =some s->s.kind≠0->f n=g (used (l.take n))):
  ∀N,N<=l.length->bC ((List.range N).map f)=bC ((List.range (used (l.take N))).map g):=by
 intro N
 induction N with
 |zero=>intro _;rfl
 |succ N ih=>
  intro hN
  have hx:=List.getElem?_eq_getElem (show N<l.length by omega)
  generalize l[N]=s at hx
  have hu:=bp l N s hx
  rw[List.range_succ,List.map_append,cB,ih (by omega),hu]
  by_cases hk:s.kind=0
  ·rw[if_pos hk,Nat.add_zero]
   simp[bC,h0 N s hx hk]
  ·rw[if_neg hk,List.range_succ,List.map_append,cB]
   simp[bC,h1 N s hx hk]
theorem my (h:ab m=0):m.refs.length=m.slots.length:=(dI (aq h).1).1.refs
theorem lN (S:Sound m) {n:Nat} {s:Slot} (hs:m.slots[n]? =some s) (hk:s.kind≠0):1<=n:=by
 rcases Nat.eq_zero_or_pos n with h|h
 ·subst h
  have:=lL S.slots
  rw[aL hs]at this
  exact absurd this hk
 ·exact h
theorem p8 (S:Sound m) {n:Nat} {s:Slot} (hs:m.slots[n]? =some s) (hk:s.kind≠0):ax (am (cL m)) ((used (m.slots.take n)+1:Nat):Int)=ax (am m) n:=by
 have n1:=lN S hs hk
 rw[ri,<-gc n1]
 exact tf λr hr y hy h=>xv (gI S hr hy) (.inr ⟨n,s,rfl,n1,hs,hk⟩) h
theorem Bh (S:Sound m) {n:Nat} {s:Slot} (hs:m.slots[n]? =some s) (hk:s.kind≠0):cnt (cL m) (used (m.slots.take n)+1)=cnt m n:=by
 have n1:=lN S hs hk
 have hp:=lM hs hk
 unfold cnt cM
 rw[if_neg (show¬(used (m.slots.take n)+1=0)by omega),if_neg (show¬n=0 by omega),p8 S hs hk,show(cL m).slots=di m.slots from rfl,aL hp,aL hs,show(eV m.slots s).kind=s.kind from rfl]
 congr 1
 by_cases h1:s.kind=1
 ·rw[if_pos h1,if_pos h1,jC,Nat.add_sub_cancel]
  have hl:=(aJ S.slots).1
  have e1:bC ((List.range (m.slots.length-1)).map (λk=>aN m.slots (am m) n (k+1)))=bC ((List.range m.slots.length).map (aN m.slots (am m) n)):=by
   rw[show m.slots.length=(m.slots.length-1)+1 from by omega,List.range_succ_eq_map,List.map_cons,List.map_map]
   have e0:aN m.slots (am m) n 0=0:=by
    unfold aN
    rw[if_neg (λhh=>by have:=lL S.slots;omega)]
   simp only[bC,e0,Nat.zero_add,Nat.add_sub_cancel]
   rfl
  rw[e1,Bg (l:=m.slots) (g:= λk=>aN (di m.slots) (am (cL m)) (used (m.slots.take n)+1) (k+1)) ?_ ?_ m.slots.length (Nat.le_refl _),List.take_length]
  ·intro k t ht hk0
   unfold aN
   rw[if_neg (λhh=>by rw[aL ht]at hh;omega)]
  ·intro k t ht hkt
   have k1:=lN S ht hkt
   have hq:=lM ht hkt
   unfold aN
   rw[aL ht,aL hq,db ht,db hq,p8 S ht hkt,<-gc n1,show(eV m.slots t).kind=t.kind from rfl,show(eV m.slots t).table=t.table.map (ren m.slots)from rfl,
    te λy hy h=>xv (jD S (List.mem_of_getElem? ht) hy) (.inr ⟨n,s,rfl,n1,hs,hk⟩) h]
 ·rw[if_neg h1,if_neg h1]
theorem Dr:∀(l:List Slot) (f:List Int) (n:Nat) (s:Slot) (r:Int),l[n]? =some s->s.kind≠0->f[n]? =some r->(((l.zip f).filter (λx=>ci x.1)).map (·.2))[used (l.take n)]? =some r:=by
 intro l
 induction l with
 |nil=>intro f n s r h;simp at h
 |cons a l ih=>
  intro f n s r h hk hf
  cases f with
  |nil=>simp at hf
  |cons b f=>
   cases n with
   |zero=>
    simp at h hf;subst h hf
    rw[List.zip_cons_cons,List.filter_cons_of_pos (p:= λx:Slot×Int=>ci x.1) (show ci a=true from eR hk)];rfl
   |succ n=>
    have:=ih f n s r (by simpa using h) hk (by simpa using hf)
    rw[List.zip_cons_cons,List.take_succ_cons]
    by_cases ha:a.kind=0
    ·rw[List.filter_cons_of_neg (p:= λx:Slot×Int=>ci x.1) (show¬ci a=true by rw[iP ha];decide)]
     simpa[used,ha]using this
    ·rw[List.filter_cons_of_pos (p:= λx:Slot×Int=>ci x.1) (show ci a=true from eR ha)]
     have e:used (a::l.take n)=used (l.take n)+1:=by simp[used,ha];omega
     rw[e];simpa using this
theorem CF:∀(l:List Slot) (f:List Int),f.length=l.length->(((l.zip f).filter (λx=>ci x.1)).map (·.2)).length=used l:=by
 intro l
 induction l with
 |nil=>intro f _;rfl
 |cons a l ih=>
  intro f h
  cases f with
  |nil=>simp at h
  |cons b f=>
   have:=ih f (by simpa using h)
   rw[List.zip_cons_cons]
   by_cases ha:a.kind=0
   ·rw[List.filter_cons_of_neg (p:= λx:Slot×Int=>ci x.1) (show¬ci a=true by rw[iP ha];decide),this];simp[used,ha]
   ·rw[List.filter_cons_of_pos (p:= λx:Slot×Int=>ci x.1) (show ci a=true from eR ha),List.map_cons,List.length_cons,this];simp[used,ha];omega
theorem yO {l:List Slot} {f:List Int} (h:f.length=l.length):(dN l f).length=(di l).length:=by
 unfold dN
 rw[List.length_cons,CF l f h,jC]
theorem od (h:ab m=0):ab (cL m)=0:=by
 have S:=ay (aq h).1
 have hr:=my h
 have hsh:aB (cL m)=0:=(vD S).shape (yO hr)
 unfold ab
 rw[if_neg (λhh=>hh hsh),if_pos]
 refine upto_iff.2 λk hk=>?_
 have hk:k<(di m.slots).length:=hk
 unfold dS
 simp only[Bool.and_eq_true,beq_iff_eq]
 rw[lj (m:=cL m) hk]
 cases k with
 |zero=>exact⟨rfl,rfl⟩
 |succ j=>
  obtain⟨n,s,h1,h2,h3,h4⟩:=yL (List.getElem?_eq_getElem hk)
  subst h3
  have hl:=(zl h1)
  have hf:=List.getElem?_eq_getElem (show n<m.refs.length by omega)
  have hc:=jo h hl
  rw[bG hf]at hc
  have e1:int (cL m).refs (used (m.slots.take n)+1)=m.refs[n]:=by
   refine bG ?_
   show(dN m.slots m.refs)[used (m.slots.take n)+1]? =_
   unfold dN
   rw[List.getElem?_cons_succ]
   exact Dr m.slots m.refs n s _ h1 h2 hf
  rw[e1,Bh S h1 h2,hc]
  refine⟨rfl,?_⟩
  have h5:=sU h hl
  rw[aL h1]at h5
  rw[show(cL m).slots=di m.slots from rfl,aL (lM h1 h2),show(eV m.slots s).kind=s.kind from rfl]
  have h6:cnt m n≠0:= λe=>h2 (h5.1 e)
  have h7:(((cnt m n:Nat):Int)==0)=false:=by simpa using h6
  have h8:(s.kind==0)=false:=by simpa using h2
  rw[h7,h8]
end
end
end Go.Proofs.YtdbneghfbkjinaaGreatDoor
