/- Texts of the proof of deskPlays_holds: PkMem. Conditions: as each text says. -/
import Derived.Test.YtdbneghfbkjinaaGreatDoorDA1
import Derived.Test.YtdbneghfbkjinaaGreatDoorDA27
set_option maxRecDepth 100000
set_option maxHeartbeats 1000000
namespace Go.Proofs.YtdbneghfbkjinaaGreatDoor
section
open Go.Proofs.Tryz
open Go.RowKit Sl
theorem tx {α:Type} (L el:List α) (a N:Nat) (h:a+el.length<=N) (hN:N<=L.length):(L.take a++el++L.drop (a+el.length)).take N=(L.take N).take a++el++(L.take N).drop (a+el.length):=by
 have ha:(L.take a).length=a:=by rw[List.length_take];omega
 rw[List.take_append,List.take_of_length_le (by rw[List.length_append,ha];exact h),List.length_append,ha,List.take_take,Nat.min_eq_left (by omega),List.drop_take]
section
variable {P:Program}
theorem ol (w:World) (base:Nat) (t ty e:TypeId) (i:TypeInfo) (size:Nat) (ht:P.underlying t=some (.slice e)) (hi:P.info? e=some i)
  (hsize:i.size=size) (g n c k:Nat) (xs:List Value) (h:w.ownsRow base e size (.slice (some ⟨g,0,none⟩) n c) n xs) (hk:k<n)
  (ad:Addr) (m2:Nat) (el:List Value) (hel:el.length=size) (hcells:∀j u,el[j]? =some u->w.cell? (ad.add j)=some u) (h1:∀u∈el,u.oneCell'=true):
  ∃w',(Builtin.append_ #[t,t] ty #[.slice (some ⟨g,0,none⟩) k c,.slice (some ad) 1 m2]).run P w=.ok (.slice (some ⟨g,0,none⟩) (k+1) c) w'/\
   w'.ownsRow base e size (.slice (some ⟨g,0,none⟩) n c) n (xs.take (k*size)++el++xs.drop ((k+1)*size))/\w.grownBy w' (some g):=by
 have hx:xs.length=n*size:=h.1
 rcases h.2 with⟨hv,_⟩|⟨g',cap,cur,hv,hbg,hg,hnc,hcm,hcs,htake⟩
 ·simp at hv
 ·simp only[Value.slice.injEq,Option.some.injEq,Addr.mk.injEq,and_true,true_and]at hv
  obtain⟨rfl,rfl⟩:=hv
  have hks:k*size+size<=n*size:=by rw[<-Nat.succ_mul];exact Nat.mul_le_mul_right _ hk
  have hns:n*size<=cur.size:=by rw[hcs];exact Nat.mul_le_mul_right _ hnc
  have hst:=run_storeCells_at P g (k*size) e el 0 cur w hg (by rw[hel];simpa using(by omega:k*size+size<=cur.size)) h1
  simp only[Nat.add_zero]at hst
  have hfirst:=run_firstCells_some (P:=P) w size 1 ad 1 m2 el (by rw[hel,Nat.one_mul]) hcells
  have hroom:k+1<=c:=by omega
  have hrun:(Builtin.append_ #[t,t] ty #[.slice (some ⟨g,0,none⟩) k c,.slice (some ad) 1 m2]).run P w=.ok (.slice (some ⟨g,0,none⟩) (k+1) c) (w.setRow g (cur.toList.take (k*size)++el++cur.toList.drop (k*size+el.length)).toArray):=by
   simp[Builtin.append_,run_underlying ht,sizeOf,typeInfo,hi,hsize,Builtin.lenOf,hfirst,hroom,Addr.add_lit,hst]
  refine⟨_,hrun,⟨?_,.inr ⟨g,c,_,rfl,hbg,setRow_heap w g cur _ _ _ hg,hnc,hcm,?_,?_⟩⟩,⟨rfl,rfl,rfl,by simp,λj _ hj=>setRow_other w g j _ (λe=>hj (by simp[e]))⟩⟩
  ·simp only[List.length_append,List.length_take,List.length_drop,hx,hel,Nat.succ_mul]
   omega
  ·simp only[List.size_toArray,List.length_append,List.length_take,List.length_drop,Array.length_toList,hel]
   omega
  ·have e1:=tx cur.toList el (k*size) (n*size) (by rw[hel];exact hks) (by rw[Array.length_toList];exact hns)
   rw[htake]at e1
   rw[Nat.succ_mul,<-hel]
   rw[hel]at e1⊢
   exact e1
end
def MapAt (W:World) (b:Nat) (ks:List (Int×Int)):Prop:=∃es c,W.heap[b]? =some (.map es c)/\es.toList.map (λe=>(e.key,e.val))=ks.map (λp=>(Value.int .i64 p.1,Value.int .i64 p.2))
section
variable {W W':World} {b:Nat} {ks:List (Int×Int)}
theorem MapAt.lt (h:MapAt W b ks):b<W.heap.size:=by obtain⟨es,c,h,_⟩:=h;exact(za h)
theorem MapAt.next (h:MapAt W b ks) (hb:Below W.heap.size W W'):MapAt W' b ks:=by have hl:=h.lt;obtain⟨es,c,h1,h2⟩:=h;exact⟨es,c,(hb.block b hl).trans h1,h2⟩
theorem MapAt.kept {row:Option Nat} (h:MapAt W b ks) (hg:W.grownBy W' row) (hn:some b≠row):MapAt W' b ks:=by have hl:=h.lt;obtain⟨es,c,h1,h2⟩:=h;exact⟨es,c,(hg.block b hl hn).trans h1,h2⟩
theorem tz (k v k':Int):∀(es:List MapEntry) (ks:List (Int×Int)) (i:Nat),es.map (λe=>(e.key,e.val))=ks.map (λp=>(Value.int .i64 p.1,Value.int .i64 p.2))->ks.find? (λp=>p.1==k)=some (k',v)->
  ∃j,Instr.findNow (.int .i64) (.int .i64 k) es i=some (some (j,.int .i64 v))
 |[],ks,i,h,hf=>by
  cases ks with
  |nil=>cases hf
  |cons p ks=>simp at h
 |e::es,[],i,h,hf=>by cases hf
 |e::es,p::ks,i,h,hf=>by
  simp only[List.map_cons,List.cons.injEq,Prod.mk.injEq]at h
  obtain⟨⟨h1,h2⟩,h3⟩:=h
  rw[List.find?_cons]at hf
  cases hp:(p.1==k)
  ·rw[hp]at hf
   have hb:(k==p.1)=false:=by simp at hp⊢;exactλe=>hp e.symm
   obtain⟨j,hj⟩:=tz k v k' es ks (i+1) h3 hf
   refine⟨j,?_⟩
   simp only[Instr.findNow,Instr.sameNow,h1,if_true,hb]
   exact hj
  ·rw[hp]at hf
   have hb:(k==p.1)=true:=by simp at hp⊢;exact hp.symm
   injection hf with hf
   subst hf
   refine⟨i,?_⟩
   simp only[Instr.findNow,Instr.sameNow,h1,if_true,hb,h2]
end
section
variable {P:Program} {T K E:TypeId}
theorem Bl (ht:P.underlying T=some (.map K E)) (hk:P.underlying K=some (.int .i64)) {W:World} {b:Nat} {ks:List (Int×Int)} (h:MapAt W b ks) {k k' v:Int} (hf:ks.find? (λp=>p.1==k)=some (k',v)):
  (Instr.lookup T (.map (some b)) (.int .i64 k) false).run P W=.ok (.int .i64 v) W:=by
 obtain⟨es,c,h1,h2⟩:=h
 obtain⟨j,hj⟩:=tz k v k' es.toList ks 0 h2 hf
 have hf':(Instr.findKey K (.int .i64 k) es.toList).run P W=.ok (some (j,.int .i64 v)) W:=by
  simp[Instr.findKey,run_underlying hk,hj]
 simp[Instr.lookup,run_underlying ht,MapKept.run_getObj_map h1,de hk,hf']
theorem Bn (ht:P.underlying T=some (.map K E)) (hk:P.underlying K=some (.int .i64)) {W:World} {b:Nat} {ks:List (Int×Int)} (h:MapAt W b ks) {k v:Int} (hn:∀p∈ks,p.1≠k):
  ∃W',(Instr.mapUpdate T (.map (some b)) (.int .i64 k) (.int .i64 v)).run P W=.ok () W'/\MapAt W' b (ks++[(k,v)])/\W.grownBy W' (some b):=by
 have hl:=h.lt
 obtain⟨es,c,h1,h2⟩:=h
 have hne:∀e∈es.toList,∃k',e.key=.int .i64 k'/\k'≠k:= λe he=>by
  have hm:(e.key,e.val)∈es.toList.map (λe=>(e.key,e.val)):=List.mem_map.2 ⟨e,he,rfl⟩
  rw[h2]at hm
  obtain⟨p,hp,e1⟩:=List.mem_map.1 hm
  injection e1 with e1 e2
  exact⟨p.1,e1.symm,hn p hp⟩
 have hf:(Instr.findKey K (.int .i64 k) es.toList).run P W=.ok none W:=by
  simp[Instr.findKey,run_underlying hk,fZ k es.toList 0 hne]
 refine⟨{W with heap:=W.heap.setIfInBounds b (.map (es.push ⟨.int .i64 k,.int .i64 v,c⟩) (c+1))},?_,⟨es.push ⟨.int .i64 k,.int .i64 v,c⟩,c+1,?_,?_⟩,⟨rfl,rfl,rfl,by simp,λj _ hj=>?_⟩⟩
 ·simp[Instr.mapUpdate,run_underlying ht,MapKept.run_getObj_map h1,de hk,hf,MapKept.run_setObj_map _ h1]
 ·simp[hl]
 ·simp[h2]
 ·show(W.heap.setIfInBounds b _)[j]? =_
  rw[Array.getElem?_setIfInBounds,if_neg (λe=>hj (by rw[e]))]
end
end
section
open Go.Proofs.Tryz
open Go.RowKit Sl
section
variable {w w':World} {base:Nat} {tg:Nat->Nat} {v:IV} {q:List SV} {p:List PV} {m:Img} {row:Option Nat}
theorem eA {size n base':Nat} {e T:TypeId} {u:Value} {xs:List Value} (h:w.ownsRow base' e size u n xs) (hr:∀b,row=some b->TypeB w b T) (hne:T≠e):u.ownBlock=none\/u.ownBlock≠row:=by
 cases row with
 |none=>cases hu:u.ownBlock with
  |none=>exact .inl rfl
  |some b=>exact .inr (λe=>by cases e)
 |some b=>exact bH h (hr b rfl) hne
theorem TabO.miss {t t' n c:Nat} {A:Option Addr} {xs:List Int} (h:TabO w base tg t A n c xs) (hg:w.grownBy w' row) (hr:∀b,row=some b->tg b=t') (hne:t'≠t):TabO w' base tg t A n c xs:=
 h.kept hg λb e _=>.inr (by rw[hr b e];exact hne)
theorem qd {α:Type} {f:α->List Value} {q:List α} {k:Nat} {x x':α} (hx:q[k]? =some x) (h:f x'=f x):(q.set k x').flatMap f=q.flatMap f:=by
 rw[List.flatMap_def,List.flatMap_def,List.map_set,h]
 congr 1
 apply List.ext_getElem?
 intro j
 rw[List.getElem?_set]
 split
 ·rename_i e
  subst e
  rw[List.getElem?_map,hx,List.length_map,if_pos (zl hx)];rfl
 ·rfl
theorem OwnI.putRoot {ys:List Int} (h:OwnI w base tg v q p m) (hg:w.grownBy w' row) (hr:∀b,row=some b->tg b=0/\TypeB w b 3) (ht:TabO w' base tg 0 v.rA v.rn v.rc ys):OwnI w' base tg v q p {m with root:=ys}:=
 ⟨ht,h.refs.miss hg (λb e=>(hr b e).1) (by decide),h.slots.kept hg (eA h.slots (λb e=>(hr b e).2) (by decide)),h.sle,h.scap,h.snaps.kept hg (eA h.snaps (λb e=>(hr b e).2) (by decide)),h.ple,h.pcap,h.hq,h.hp,
  λj x hx=>⟨(h.tabs j x hx).1,(h.tabs j x hx).2.miss hg (λb e=>(hr b e).1) (by omega)⟩,λj x hx=>⟨(h.roots j x hx).1,(h.roots j x hx).2.miss hg (λb e=>(hr b e).1) (by omega)⟩⟩
theorem OwnI.putTab {ys:List Int} {k:Nat} {x:SV} (h:OwnI w base tg v q p m) (hx:q[k]? =some x) (hg:w.grownBy w' row) (hr:∀b,row=some b->tg b=2*k+4/\TypeB w b 3) (ht:TabO w' base tg (2*k+4) x.A x.n x.c ys):
  OwnI w' base tg v (q.set k ⟨{x.s with table:=ys},x.A,x.n,x.c⟩) p {m with slots:=m.slots.set k {x.s with table:=ys}}:=by
 refine⟨h.root.miss hg (λb e=>(hr b e).1) (by omega),h.refs.miss hg (λb e=>(hr b e).1) (by omega),?_,h.sle,h.scap,h.snaps.kept hg (eA h.snaps (λb e=>(hr b e).2) (by decide)),h.ple,h.pcap,?_,h.hp,λj y hy=>?_,
  λj y hy=>⟨(h.roots j y hy).1,(h.roots j y hy).2.miss hg (λb e=>(hr b e).1) (by omega)⟩⟩
 ·rw[qd (x':=⟨{x.s with table:=ys},x.A,x.n,x.c⟩) hx rfl]
  exact h.slots.kept hg (eA h.slots (λb e=>(hr b e).2) (by decide))
 ·rw[List.map_set,h.hq]
 ·rw[List.getElem?_set]at hy
  split at hy
  ·rename_i e
   subst e
   rw[if_pos (zl hx)]at hy
   injection hy with hy
   subst hy
   exact⟨(h.tabs k x hx).1,ht⟩
  ·rename_i hne
   exact⟨(h.tabs j y hy).1,(h.tabs j y hy).2.miss hg (λb e=>(hr b e).1) (by omega)⟩
theorem OwnI.putSnap {ys:List Int} {k:Nat} {x:PV} (h:OwnI w base tg v q p m) (hx:p[k]? =some x) (hg:w.grownBy w' row) (hr:∀b,row=some b->tg b=2*k+5/\TypeB w b 3) (ht:TabO w' base tg (2*k+5) x.A x.n x.c ys):
  OwnI w' base tg v q (p.set k ⟨{x.s with root:=ys},x.A,x.n,x.c⟩) {m with snaps:=m.snaps.set k {x.s with root:=ys}}:=by
 refine⟨h.root.miss hg (λb e=>(hr b e).1) (by omega),h.refs.miss hg (λb e=>(hr b e).1) (by omega),h.slots.kept hg (eA h.slots (λb e=>(hr b e).2) (by decide)),h.sle,h.scap,?_,h.ple,h.pcap,h.hq,?_,
  λj y hy=>⟨(h.tabs j y hy).1,(h.tabs j y hy).2.miss hg (λb e=>(hr b e).1) (by omega)⟩,λj y hy=>?_⟩
 ·rw[qd (x':=⟨{x.s with root:=ys},x.A,x.n,x.c⟩) hx rfl]
  exact h.snaps.kept hg (eA h.snaps (λb e=>(hr b e).2) (by decide))
 ·rw[List.map_set,h.hp]
 ·rw[List.getElem?_set]at hy
  split at hy
  ·rename_i e
   subst e
   rw[if_pos (zl hx)]at hy
   injection hy with hy
   subst hy
   exact⟨(h.roots k x hx).1,ht⟩
  ·rename_i hne
   exact⟨(h.roots j y hy).1,(h.roots j y hy).2.miss hg (λb e=>(hr b e).1) (by omega)⟩
theorem xB {size n c k g:Nat} {e:TypeId} {xs:List Value} (h:w.ownsRow base e size (.slice (some ⟨g,0,none⟩) n c) n xs) (hk:k<=n):w.ownsRow base e size (.slice (some ⟨g,0,none⟩) k c) k (xs.take (k*size)):=by
 have hx:xs.length=n*size:=h.1
 have hks:k*size<=n*size:=Nat.mul_le_mul_right _ hk
 rcases h.2 with⟨hv,_⟩|⟨g',cap,cur,hv,hbg,hg,hnc,hcm,hcs,htake⟩
 ·simp at hv
 ·simp only[Value.slice.injEq,Option.some.injEq,Addr.mk.injEq,and_true,true_and]at hv
  obtain⟨rfl,rfl⟩:=hv
  refine⟨by rw[List.length_take,hx];omega,.inr ⟨g,c,cur,rfl,hbg,hg,by omega,hcm,hcs,?_⟩⟩
  rw[<-htake,List.take_take,Nat.min_eq_left hks]
def eT (x:SV):Bool:=ci x.s
theorem rp:∀(q:List SV) (j:Nat) (x:SV),(q.filter eT)[j]? =some x->∃n,q[n]? =some x/\x.s.kind≠0/\used ((q.map (·.s)).take n)=j:=by
 intro q
 induction q with
 |nil=>intro j x h;simp at h
 |cons a q ih=>
  intro j x h
  by_cases ha:a.s.kind=0
  ·rw[List.filter_cons_of_neg (show¬eT a=true by unfold eT;rw[iP ha];decide)]at h
   obtain⟨n,h1,h2,h3⟩:=ih j x h
   exact⟨n+1,by simpa using h1,h2,by rw[List.map_cons,List.take_succ_cons];simp[used,ha,h3]⟩
  ·rw[List.filter_cons_of_pos (show eT a=true from eR ha)]at h
   cases j with
   |zero=>simp at h;subst h;exact⟨0,rfl,ha,rfl⟩
   |succ j=>
    obtain⟨n,h1,h2,h3⟩:=ih j x (by simpa using h)
    exact⟨n+1,by simpa using h1,h2,by rw[List.map_cons,List.take_succ_cons];simp[used,ha,h3];omega⟩
theorem tC (q:List SV):(q.filter eT).map (·.s)=(q.map (·.s)).filter ci:=by
 induction q with
 |nil=>rfl
 |cons a q ih=>
  by_cases ha:ci a.s=true
  ·rw[List.filter_cons_of_pos (show eT a=true from ha),List.map_cons,List.map_cons,List.filter_cons_of_pos ha,ih]
  ·rw[List.filter_cons_of_neg (show¬eT a=true from ha),List.map_cons,List.filter_cons_of_neg ha,ih]
def kS (l:List Slot) (t:Nat):Nat:=if t%2=0/\4<t then 2*(used (l.take ((t-4)/2))+1)+4 else t
theorem CI (l:List Slot) {n:Nat} (h:1<=n):kS l (2*n+4)=2*(used (l.take n)+1)+4:=by
 unfold kS
 rw[if_pos ⟨by omega,by omega⟩,show(2*n+4-4)/2=n from by omega]
theorem CJ (l:List Slot) (n:Nat):kS l (2*n+5)=2*n+5:=by unfold kS;rw[if_neg (by omega)]
theorem TabO.retagT {t n c:Nat} {A:Option Addr} {xs:List Int} (h:TabO w base tg t A n c xs) {f:Nat->Nat} {t':Nat} (hf:f t=t') (h4:4<=t->4<=t'):TabO w base (λb=>f (tg b)) t' A n c xs:=
 ⟨h.1,h.2.1,h.2.2.imp (λ⟨a,b,c⟩=>⟨a,b,c.imp h4 id⟩) λ⟨ho,ht⟩=>⟨ho,λb e=>by show f (tg b)=t';rw[ht b e];exact hf⟩⟩
theorem OwnI.cut {w1:World} {sb fb k:Nat} {q':List SV} {f':List Int} {x0:SV} (h:OwnI w base tg v q p m) (hx0:q[0]? =some x0) (h0:x0.s=freeSlot)
  (hA:v.sA=some ⟨sb,0,none⟩) (hF:v.fA=some ⟨fb,0,none⟩) (hk:k=used m.slots+1) (hkn:k<=v.sn) (hkf:k<=v.fn) (hl:q'.length=v.sn) (hf':f'.length=v.fn)
  (hslots:w1.ownsRow base 108 3 (.slice v.sA v.sn v.sc) v.sn (q'.flatMap SV.cells)) (hrefs:w1.ownsRow base 3 1 (.slice v.fA v.fn v.fc) v.fn (ah f')) (hpre:q'.take k=x0::q.filter eT) (hfr:f'.take k=dN m.slots m.refs)
  (hroot:TabO w1 base tg 0 v.rA v.rn v.rc m.root) (htag:∀b,(Value.slice v.fA v.fn v.fc).ownBlock=some b->tg b=1) (hsnaps:w1.ownsRow base 102 3 (.slice v.pA v.pn v.pc) v.pn (p.flatMap PV.cells))
  (htabs:∀(k:Nat) (x:SV),q[k]? =some x->TabO w1 base tg (2*k+4) x.A x.n x.c x.s.table) (hroots:∀(k:Nat) (x:PV),p[k]? =some x->TabO w1 base tg (2*k+5) x.A x.n x.c x.s.root):
  OwnI w1 base (λb=>kS m.slots (tg b)) {v with sn:=k,fn:=k} (x0::q.filter eT) p {m with slots:=freeSlot::m.slots.filter ci,refs:=dN m.slots m.refs}:=by
 have hq:=h.hq
 have hcs:=h.scap
 have hcr:=h.refs.2.1
 have hle:=h.sle
 have hre:=h.refs.1
 rw[hA]at hslots
 rw[hF]at hrefs
 have s1:=xB hslots hkn
 have r1:=xB hrefs hkf
 have e1:(q'.flatMap SV.cells).take (k*3)=(x0::q.filter eT).flatMap SV.cells:=by
  rw[<-hpre]
  have e:=List.take_append_drop k q'
  conv=>lhs;rw[<-e]
  have hlen:((q'.take k).flatMap SV.cells).length=k*3:=by rw[aO _ SV.cells_len,List.length_take];omega
  rw[List.flatMap_append,<-hlen]
  exact List.take_left
 have e2:(ah f').take (k*1)=ah (dN m.slots m.refs):=by rw[<-hfr,Nat.mul_one];unfold ah;rw[List.map_take]
 rw[e1]at s1
 rw[e2]at r1
 refine⟨hroot.retagT (by rfl) (λh=>absurd h (by decide)),⟨by show k<=v.fc;omega,⟨by show k<=_;omega,hcr.2⟩,.inr ⟨by rw[hF];exact r1,λb e=>?_⟩⟩,by rw[hA];exact s1,by show k<=v.sc;omega,⟨by show k<=_;omega,hcs.2⟩,hsnaps,h.ple,h.pcap,?_,h.hp,λj x hx=>?_,λj x hx=>⟨(h.roots j x hx).1,(hroots j x hx).retagT (CJ _ _) (λ_=>by omega)⟩⟩
 ·have e':(Value.slice v.fA v.fn v.fc).ownBlock=some b:=by rw[hF]at e⊢;exact e
  show kS m.slots (tg b)=1
  rw[htag b e'];rfl
 ·rw[List.map_cons,h0,tC,hq]
 ·cases j with
  |zero=>
   have hx:x0=x:=by simpa using hx
   subst hx
   have ht:=htabs 0 _ hx0
   refine⟨(h.tabs 0 _ hx0).1,ht.retagT (by rfl) (λ_=>by omega)⟩
  |succ j=>
   have hx:(q.filter eT)[j]? =some x:=by simpa using hx
   obtain⟨n,h1,h2,h3⟩:=rp q j x hx
   have hn1:1<=n:=by
    rcases Nat.eq_zero_or_pos n with e|e
    ·subst e
     rw[hx0]at h1
     injection h1 with h1
     subst h1
     rw[h0]at h2
     exact absurd rfl h2
    ·exact e
   rw[hq]at h3
   refine⟨(h.tabs n x h1).1,(htabs n x h1).retagT ?_ (λ_=>by omega)⟩
   rw[CI _ hn1,h3]
end
end
section
open Go.Proofs.Tryz
open Go.RowKit Sl
theorem CK {f:Int->Int} {xs:List Int} {k:Nat} {x:Int} (hx:xs[k]? =some x):((xs.take k).map f++xs.drop k).set k (f x)=(xs.take (k+1)).map f++xs.drop (k+1):=by
 have hk:=(zl hx)
 have hd:xs.drop k=x::xs.drop (k+1):=by
  rw[List.drop_eq_getElem_cons hk]
  congr 1
  exact(List.getElem?_eq_some_iff.1 hx).2
 have hl:((xs.take k).map f).length=k:=by rw[List.length_map,List.length_take];omega
 rw[hd,List.set_append_right _ _ (by omega),hl,Nat.sub_self,List.set_cons_zero,List.take_add_one,hx,List.map_append]
 simp
theorem Ds {f:Int->Int} {xs:List Int} {k:Nat}:((xs.take k).map f++xs.drop k)[k]? =xs[k]? :=by
 by_cases hk:k<xs.length
 ·have hl:((xs.take k).map f).length=k:=by rw[List.length_map,List.length_take];omega
  rw[List.getElem?_append_right (by omega),hl,Nat.sub_self,List.getElem?_drop,Nat.add_zero]
 ·rw[List.getElem?_eq_none (by simp;omega),List.getElem?_eq_none (by omega)]
theorem vH (nb mb base g n c:Nat) (f:Int->Int) (ks:List (Int×Int)) (xs:List Int) (w:World) (hN:w.cell? ⟨nb,0,none⟩=some (.map (some mb))) (hM:MapAt w mb ks) (hf:∀x∈xs,∃k',ks.find? (λp=>p.1==x)=some (k',f x))
  (ho:w.ownsRow base 3 1 (.slice (some ⟨g,0,none⟩) n c) n (ah xs)) (hnb:nb≠g) (hmb:mb≠g) (hn:n<=1000000):
  Calls prog 103 #[.slice (some ⟨g,0,none⟩) n c,.pointer (some ⟨nb,0,none⟩)] w λe w'=>e=.returned (.tuple #[])/\w'.ownsRow base 3 1 (.slice (some ⟨g,0,none⟩) n c) n (ah (xs.map f))/\w.grownBy w' (some g):=by
 have hx:xs.length=n:=by have:=ho.1;simpa[ah]using this
 have hT:=au ho rfl
 have HF:=zh hf
 have HM:=zh hM
 have HN:=zh hN
 have HO:=zh ho
 have HX:=zh hx
 clear hf hM hN ho hx
 go_enter func103,ntmps103
 go_wp2_with fail
 go_loopw [7] (λi wr=>∃k:Nat,k<=n/\i=.int .i64 k/\wr.ownsRow base 3 1 (.slice (some ⟨g,0,none⟩) n c) n (ah ((xs.take k).map f++xs.drop k))/\w.grownBy wr (some g)) (λi _=>n-(intOf i).toNat)
 case atStart=>exact⟨0,Nat.zero_le _,rfl,by simpa using HO.o,⟨rfl,rfl,rfl,Nat.le_refl _,λ_ _ _=>rfl⟩⟩
 case round=>
  obtain⟨k,hkn,rfl,ho,hg⟩:=hrel
  have HOr:=zh ho
  by_cases hlt:k<n
  ·obtain⟨x,hxk⟩:∃x,xs[k]? =some x:=⟨_,List.getElem?_eq_getElem (by rw[HX.o];exact hlt)⟩
   have HXK:=zh hxk
   obtain⟨k',hfind⟩:=HF.o x (List.mem_of_getElem? hxk)
   have hlook:=Bl (P:=prog) underlying116 underlying3 (HM.o.kept hg (λe=>hmb (by injection e))) hfind
   have c1:=ho.cellAt k (by omega)
   have c2:(ah ((xs.take k).map f++xs.drop k))[k]? =some (.int .i64 x):=by unfold ah;rw[List.getElem?_map,Ds,hxk];rfl
   rw[c2]at c1
   have f1:=ho.frozenAt k
   have cN:=hg.cell HN.o (λe=>hnb (by injection e))
   obtain⟨o1,g1⟩:=ho.stored k (.int .i64 (f x))
   have e3:(ah ((xs.take k).map f++xs.drop k)).set k (.int .i64 (f x))=ah ((xs.take (k+1)).map f++xs.drop (k+1)):=by
    rw[<-CK hxk];unfold ah;rw[List.map_set]
   rw[e3]at o1
   have HO1:=zh o1
   have HG1:=zh (hg.trans g1)
   have e0:(0:Int)<=(k:Int):=by omega
   have e1:(k:Int)<(n:Int):=by omega
   clear ho o1 g1 e3 c2 hfind hxk
   go_wp2_with fail
   go_roundw
   case rel=>exact⟨k+1,by omega,by go_num,HO1.o,HG1.o⟩
   case measure=>simp[intOf];omega
  ·obtain rfl:k=n:=by omega
   go_wp2_with fail
   go_end0
   refine⟨rfl,?_,hg⟩
   have e:=HX.o
   rw[List.take_of_length_le (by omega),List.drop_of_length_le (by omega),List.append_nil]at ho
   exact ho
theorem vI (nb:Nat) (A:Option Addr) (c:Nat) (w:World):
  Calls prog 103 #[.slice A 0 c,.pointer (some ⟨nb,0,none⟩)] w λe w'=>e=.returned (.tuple #[])/\w.grownBy w' none:=by
 go_enter func103,ntmps103
 go_wp2_with fail
 go_loopw [7] (λi wr=>i=.int .i64 0/\w.grownBy wr none) (λ_ _=>0)
 case atStart=>exact⟨rfl,⟨rfl,rfl,rfl,Nat.le_refl _,λ_ _ _=>rfl⟩⟩
 case round=>
  obtain⟨rfl,hg⟩:=hrel
  go_wp2_with fail
  go_end0
  exact⟨rfl,hg⟩
theorem gd {w:World} {b:Nat} {ks:List (Int×Int)} (h:MapAt w b ks) {T:TypeId} (hT:TypeB w b T):False:=by
 obtain⟨es,c,h1,_⟩:=h
 obtain⟨cur,f,h2⟩:=hT
 rw[h1]at h2
 cases h2
theorem kT (nb mb base t:Nat) (tg:Nat->Nat) (A:Option Addr) (n c:Nat) (f:Int->Int) (ks:List (Int×Int)) (xs:List Int) (w:World) (hN:w.cell? ⟨nb,0,none⟩=some (.map (some mb))) (hM:MapAt w mb ks) (hf:∀x∈xs,∃k',ks.find? (λp=>p.1==x)=some (k',f x))
  (h:TabO w base tg t A n c xs) {T:TypeId} (hnb:TypeB w nb T) (hT:T≠3) (hn:n<=1000000):
  Calls prog 103 #[.slice A n c,.pointer (some ⟨nb,0,none⟩)] w λe w'=>e=.returned (.tuple #[])/\ ∃row,w.grownBy w' row/\(∀b,row=some b->tg b=t/\TypeB w b 3/\base<=b)/\TabO w' base tg t A n c (xs.map f):=by
 have nil:n=0->xs=[]->Calls prog 103 #[.slice A n c,.pointer (some ⟨nb,0,none⟩)] w λe w'=>e=.returned (.tuple #[])/\ ∃row,w.grownBy w' row/\(∀b,row=some b->tg b=t/\TypeB w b 3/\base<=b)/\TabO w' base tg t A n c (xs.map f):=by
  intro h1 h2
  subst h1 h2
  exact(vI nb A c w).mono λe w' ⟨h1,h2⟩=>⟨h1,none,h2,(λb e=>by cases e),h.kept h2 λb e _=>by cases e⟩
 rcases h.2.2 with⟨h1,h2,_⟩|⟨ho,ht⟩
 ·exact nil h1 h2
 ·have ho':=ho
  rcases ho.2 with⟨hv,h0⟩|⟨g,cap,cur,hv,hbg,hg,hnc,hcm,hcs,htake⟩
  ·simp only[Value.slice.injEq]at hv
   obtain⟨_,h1,_⟩:=hv
   exact nil h1 (List.eq_nil_of_length_eq_zero (by have:=ho'.1;simp[ah]at this;omega))
  ·simp only[Value.slice.injEq]at hv
   obtain⟨rfl,_,rfl⟩:=hv
   have hTg:=au ho' rfl
   have e1:nb≠g:=hnb.ne hTg hT
   have e2:mb≠g:= λe=>gd hM (e▸hTg)
   refine(vH nb mb base g n c f ks xs w hN hM hf ho' e1 e2 hn).mono λe w' ⟨h1,h2,h3⟩=>⟨h1,some g,h3,λb e=>?_,h.1,h.2.1,.inr ⟨h2,ht⟩⟩
   injection e with e
   subst e
   exact⟨ht g rfl,hTg,hbg⟩
end
section
open Go.Proofs.Tryz
open Go.RowKit Sl
section
variable {w w':World} {base b:Nat} {tg:Nat->Nat}
theorem eB {size n:Nat} {e:TypeId} {u:Value} {xs:List Value} (h:w.ownsRow base e size u n xs) (hg:w.grownBy w' (some b)) (hC:¬TypeB w b e):w'.ownsRow base e size u n xs:=
 h.kept hg (.inr λe=>hC (au h e))
theorem TabO.keptC {t n c:Nat} {A:Option Addr} {xs:List Int} (h:TabO w base tg t A n c xs) (hg:w.grownBy w' (some b)) (hC:TypeB w b 3->tg b≠t):TabO w' base tg t A n c xs:=
 ⟨h.1,h.2.1,h.2.2.imp id λ⟨ho,ht⟩=>⟨ho.kept hg (.inr λe=>hC (au ho e) (ht b e)),ht⟩⟩
end
structure PkF (w3 wr:World) (base:Nat) (tg:Nat->Nat) (v:IV) (q:List SV) (p:List PV) (m:Img) (b5 nb mb:Nat):Prop where
 root:TabO wr base tg 0 v.rA v.rn v.rc m.root
 snaps:wr.ownsRow base 102 3 (.slice v.pA v.pn v.pc) v.pn (p.flatMap PV.cells)
 tabs:∀(k:Nat) (x:SV),q[k]? =some x->TabO wr base tg (2*k+4) x.A x.n x.c x.s.table
 roots:∀(k:Nat) (x:PV),p[k]? =some x->TabO wr base tg (2*k+5) x.A x.n x.c x.s.root
 box:Box wr b5 m.guest v
 boxB:BoxB wr b5
 nbox:wr.cell? ⟨nb,0,none⟩=some (.map (some mb))
 nG:BoxG wr nb 116
 below:Below base w3 wr
section
variable {w3 wr wr':World} {base b5 nb mb:Nat} {tg:Nat->Nat} {v:IV} {q:List SV} {p:List PV} {m:Img}
theorem PkF.next (h:PkF w3 wr base tg v q p m b5 nb mb) (hb:Below wr.heap.size wr wr') (hl:base<=w3.heap.size):PkF w3 wr' base tg v q p m b5 nb mb:=
 ⟨h.root.next hb,aI h.snaps hb,λk x hx=>(h.tabs k x hx).next hb,λk x hx=>(h.roots k x hx).next hb,h.box.keep hb h.boxB.ty.lt,h.boxB.next hb,(hb.cell (p:=⟨nb,0,none⟩) h.nG.ty.lt).trans h.nbox,h.nG.next hb,h.below.trans (hb.mono (Nat.le_trans hl h.below.size))⟩
theorem PkF.kept (h:PkF w3 wr base tg v q p m b5 nb mb) {b:Nat} (hg:wr.grownBy wr' (some b)) (hl:base<=w3.heap.size) (hb:base<=b) (hC:∀T,TypeB wr b T->T=108\/(T=3/\tg b=1)):PkF w3 wr' base tg v q p m b5 nb mb:=by
 have h1:TypeB wr b 3->tg b=1:= λhT=>by
  rcases hC _ hT with e|⟨_,e⟩
  ·exact absurd e (by decide)
  ·exact e
 have no:∀T,T≠108->T≠3->¬TypeB wr b T:= λT a c hT=>by
  rcases hC _ hT with e|⟨e,_⟩
  ·exact a e
  ·exact c e
 have e5:some b5≠some b:= λe=>by injection e with e;subst e;exact no 34 (by decide) (by decide) h.boxB.ty
 have en:some nb≠some b:= λe=>by injection e with e;subst e;exact no 116 (by decide) (by decide) h.nG.ty
 exact⟨h.root.keptC hg (λhT=>by rw[h1 hT];decide),eB h.snaps hg (no _ (by decide) (by decide)),λk x hx=>(h.tabs k x hx).keptC hg (λhT=>by rw[h1 hT];omega),λk x hx=>(h.roots k x hx).keptC hg (λhT=>by rw[h1 hT];omega),
  h.box.kept hg e5,h.boxB.kept hg e5,hg.cell h.nbox en,h.nG.kept hg en,h.below.grown hg (Nat.le_trans hl h.below.size) (λj e=>by injection e with e;omega)⟩
end
def ksl (l:List Slot):Nat->List (Int×Int)
 |0=>[(0,0),(-1,-1)]
 |n+1=>if br l n=0 then ksl l n else ksl l n++[((n:Int),((used (l.take n)+1:Nat):Int))]
theorem Bo (l:List Slot):∀n,∀p∈ksl l n,p.1<(n:Int)\/p.1=0:=by
 intro n
 induction n with
 |zero=>intro p hp;simp[ksl]at hp;rcases hp with rfl|rfl<;>simp
 |succ n ih=>
  intro p hp
  unfold ksl at hp
  split at hp
  ·rcases ih p hp with h|h
   ·exact .inl (by omega)
   ·exact .inr h
  ·rcases List.mem_append.1 hp with hp|hp
   ·rcases ih p hp with h|h
    ·exact .inl (by omega)
    ·exact .inr h
   ·have:p=((n:Int),((used (l.take n)+1:Nat):Int)):=by simpa using hp
    subst this
    exact .inl (by show(n:Int)<((n+1:Nat):Int);omega)
theorem Bp (l:List Slot) {k:Nat} (hk:1<=k) (hu:br l k≠0):∀n,k<n->(ksl l n).find? (λp=>p.1==(k:Int))=some ((k:Int),ren l k):=by
 intro n
 induction n with
 |zero=>intro h;omega
 |succ n ih=>
  intro h
  unfold ksl
  by_cases hkn:k<n
  ·split
   ·exact ih hkn
   ·rw[List.find?_append,ih hkn];rfl
  ·obtain rfl:k=n:=by omega
   have hno:(ksl l k).find? (λp=>p.1==(k:Int))=none:=by
    rw[List.find?_eq_none]
    intro p hp
    have:=Bo l k p hp
    simp only[beq_iff_eq]
    omega
   rw[if_neg hu,List.find?_append,hno,gc hk]
   simp
theorem CL (l:List Slot) {x:Int} (hx:x=0\/x= -1):∀n,(ksl l n).find? (λp=>p.1==x)=some (x,x):=by
 intro n
 induction n with
 |zero=>rcases hx with rfl|rfl<;>rfl
 |succ n ih=>
  unfold ksl
  split
  ·exact ih
  ·rw[List.find?_append,ih];rfl
theorem CM {l:List Slot} {x:Int} (h:hH l x) (h1: -1<=x):∃k',(ksl l l.length).find? (λp=>p.1==x)=some (k',ren l x):=by
 rcases h with h|⟨n,s,rfl,n1,hs,hk⟩
 ·rw[ke h];exact⟨x,CL l (by omega) _⟩
 ·exact⟨_,Bp l n1 (by rw[aL hs];exact hk) _ (zl hs)⟩
structure PkAt (w3 wr:World) (base:Nat) (tg:Nat->Nat) (v:IV) (q:List SV) (p:List PV) (m:Img) (x0:SV) (b5 nb mb n:Nat) (q':List SV) (f':List Int):Prop where
 frame:PkF w3 wr base tg v q p m b5 nb mb
 slots:wr.ownsRow base 108 3 (.slice v.sA v.sn v.sc) v.sn (q'.flatMap SV.cells)
 ql:q'.length=v.sn
 qpre:q'.take (used (m.slots.take n)+1)=x0::(q.take n).filter eT
 qrest:∀j,n<=j->q'[j]? =q[j]?
 refs:wr.ownsRow base 3 1 (.slice v.fA v.fn v.fc) v.fn (ah f')
 fl:f'.length=v.fn
 fpre:f'.take (used (m.slots.take n)+1)=dN (m.slots.take n) (m.refs.take n)
 frest:∀j,n<=j->f'[j]? =m.refs[j]?
 map:MapAt wr mb (ksl m.slots n)
section
variable {w3 wr wr':World} {base b5 nb mb n:Nat} {tg:Nat->Nat} {v:IV} {q:List SV} {p:List PV} {m:Img} {x0:SV} {q':List SV} {f':List Int}
theorem PkAt.next (h:PkAt w3 wr base tg v q p m x0 b5 nb mb n q' f') (hb:Below wr.heap.size wr wr') (hl:base<=w3.heap.size):PkAt w3 wr' base tg v q p m x0 b5 nb mb n q' f':=
 ⟨h.frame.next hb hl,aI h.slots hb,h.ql,h.qpre,h.qrest,aI h.refs hb,h.fl,h.fpre,h.frest,h.map.next hb⟩
theorem ku {l:List Slot} {f:List Int} {n:Nat} {s:Slot} {r:Int} (hs:l[n]? =some s) (hf:f[n]? =some r):(l.take (n+1)).zip (f.take (n+1))=(l.take n).zip (f.take n)++[(s,r)]:=by
 have h1:=(zl hs)
 have h2:=(zl hf)
 rw[List.take_add_one,List.take_add_one,hs,hf,List.zip_append (by rw[List.length_take,List.length_take];omega)]
 rfl
theorem om {l:List Slot} {f:List Int} {n:Nat} {s:Slot} {r:Int} (hs:l[n]? =some s) (hf:f[n]? =some r) (hk:s.kind=0):dN (l.take (n+1)) (f.take (n+1))=dN (l.take n) (f.take n):=by
 unfold dN
 rw[ku hs hf,List.filter_append]
 simp[ci,hk]
theorem oo {l:List Slot} {f:List Int} {n:Nat} {s:Slot} {r:Int} (hs:l[n]? =some s) (hf:f[n]? =some r) (hk:s.kind≠0):dN (l.take (n+1)) (f.take (n+1))=dN (l.take n) (f.take n)++[r]:=by
 unfold dN
 rw[ku hs hf,List.filter_append]
 simp[ci,hk]
theorem qe {q:List SV} {n:Nat} {x:SV} (hx:q[n]? =some x):(q.take (n+1)).filter eT=(q.take n).filter eT++(if x.s.kind=0 then[]else[x]):=by
 rw[List.take_add_one,hx,List.filter_append]
 by_cases hk:x.s.kind=0
 ·rw[if_pos hk];simp[eT,ci,hk]
 ·rw[if_neg hk];simp[eT,ci,hk]
theorem tD {α:Type} {l:List α} {k:Nat} {x:α} (h:k<l.length):(l.set k x).take (k+1)=l.take k++[x]:=by
 rw[List.take_add_one,List.getElem?_set_self h,List.take_set_of_le (Nat.le_refl _)];rfl
theorem PkAt.skip (h:PkAt w3 wr base tg v q p m x0 b5 nb mb n q' f') (hq:q.map (·.s)=m.slots) {x:SV} {r:Int} (hx:q[n]? =some x) (hr:m.refs[n]? =some r) (hk:x.s.kind=0):PkAt w3 wr base tg v q p m x0 b5 nb mb (n+1) q' f':=by
 have hs:m.slots[n]? =some x.s:=by rw[<-hq,List.getElem?_map,hx];rfl
 have hu:=bp m.slots n x.s hs
 rw[if_pos hk,Nat.add_zero]at hu
 refine⟨h.frame,h.slots,h.ql,?_,λj hj=>h.qrest j (by omega),h.refs,h.fl,?_,λj hj=>h.frest j (by omega),?_⟩
 ·rw[hu,qe hx,if_pos hk,List.append_nil];exact h.qpre
 ·rw[hu,om hs hr hk];exact h.fpre
 ·unfold ksl;rw[if_pos (by rw[aL hs];exact hk)];exact h.map
theorem Bq {q:List SV} {k:Nat} {x:SV} (hk:k<q.length):(q.flatMap SV.cells).take (k*3)++x.cells++(q.flatMap SV.cells).drop ((k+1)*3)=(q.set k x).flatMap SV.cells:=by
 have e:q=q.take k++q[k]::q.drop (k+1):=by
  rw[<-List.drop_eq_getElem_cons hk,List.take_append_drop]
 have h1:((q.take k).flatMap SV.cells).length=k*3:=by rw[aO _ SV.cells_len,List.length_take];omega
 have e1:(q.flatMap SV.cells).take (k*3)=(q.take k).flatMap SV.cells:=by
  conv=>lhs;rw[e]
  rw[List.flatMap_append,<-h1,List.take_left]
 have e2:(q.flatMap SV.cells).drop ((k+1)*3)=(q.drop (k+1)).flatMap SV.cells:=by
  have h2:((q.take (k+1)).flatMap SV.cells).length=(k+1)*3:=by rw[aO _ SV.cells_len,List.length_take];omega
  conv=>lhs;rw[<-List.take_append_drop (k+1) q]
  rw[List.flatMap_append,<-h2,List.drop_left]
 rw[e1,e2,List.set_eq_take_append_cons_drop,if_pos hk,List.flatMap_append,List.flatMap_cons,List.append_assoc]
theorem PkAt.take (h:PkAt w3 wr base tg v q p m x0 b5 nb mb n q' f') (hl:base<=w3.heap.size) (hq:q.map (·.s)=m.slots) {x:SV} {r:Int} (hx:q[n]? =some x) (hr:m.refs[n]? =some r) (hk:x.s.kind≠0) (hn:n<v.sn) (hfn:v.fn=v.sn) (hu0:used (m.slots.take n)+1<=n)
  {sb fb:Nat} (hA:v.sA=some ⟨sb,0,none⟩) (hF:v.fA=some ⟨fb,0,none⟩) (hmb:base<=mb) (htag:tg fb=1)
  {w1 w2 w4:World} (g1:wr.grownBy w1 (some mb)) (hM:MapAt w1 mb (ksl m.slots n++[((n:Int),((used (m.slots.take n)+1:Nat):Int))]))
  {wa:World} (ba:Below w1.heap.size w1 wa) (g2:wa.grownBy w2 (some sb)) (o2:w2.ownsRow base 108 3 (.slice v.sA v.sn v.sc) v.sn ((q'.flatMap SV.cells).take ((used (m.slots.take n)+1)*3)++x.cells++(q'.flatMap SV.cells).drop ((used (m.slots.take n)+1+1)*3)))
  {wb:World} (bb:Below w2.heap.size w2 wb) (g4:wb.grownBy w4 (some fb)) (o4:w4.ownsRow base 3 1 (.slice v.fA v.fn v.fc) v.fn ((ah f').take ((used (m.slots.take n)+1)*1)++[.int .i64 r]++(ah f').drop ((used (m.slots.take n)+1+1)*1))):
  PkAt w3 w4 base tg v q p m x0 b5 nb mb (n+1) (q'.set (used (m.slots.take n)+1) x) (f'.set (used (m.slots.take n)+1) r):=by
 have hs:m.slots[n]? =some x.s:=by rw[<-hq,List.getElem?_map,hx];rfl
 have hu:=bp m.slots n x.s hs
 rw[if_neg hk]at hu
 generalize hkk:used (m.slots.take n)+1=k at*
 have hkq:k<q'.length:=by rw[h.ql];omega
 have hkf:k<f'.length:=by rw[h.fl];omega
 have f1:=h.frame.kept g1 hl hmb (λT hT=>by
  obtain⟨es,c,e1,_⟩:=h.map
  obtain⟨cur,fz,e2⟩:=hT
  rw[e1]at e2;cases e2)
 have s1:=eB h.slots g1 (λhT=>gd h.map hT)
 have r1:=eB h.refs g1 (λhT=>gd h.map hT)
 have f2:=f1.next ba hl
 have ra:=aI r1 ba
 have sa:=aI s1 ba
 have Ma:=hM.next ba
 have hTs:TypeB wa sb 108:=au sa (by rw[hA];rfl)
 have hbs:base<=sb:=(sa.lt sb (by rw[hA];rfl)).1
 have uniq:∀{W:World} {b:Nat} {T T':TypeId},TypeB W b T->TypeB W b T'->T'=T:= λh1 h2=>Classical.byContradiction λhne=>h1.ne h2 (λe=>hne e.symm) rfl
 have f3:=f2.kept g2 hl hbs (λT hT=>.inl (uniq hTs hT))
 have r3:=eB ra g2 (λhT=>absurd (uniq hTs hT) (by decide))
 have M3:=Ma.kept g2 (λe=>by injection e with e;subst e;exact gd Ma hTs)
 have f4:=f3.next bb hl
 have r4:=aI r3 bb
 have s4:=aI o2 bb
 have M4:=M3.next bb
 have hTf:TypeB wb fb 3:=au r4 (by rw[hF];rfl)
 have hbf:base<=fb:=(r4.lt fb (by rw[hF];rfl)).1
 have f5:=f4.kept g4 hl hbf (λT hT=>.inr ⟨uniq hTf hT,htag⟩)
 have s5:=eB s4 g4 (λhT=>absurd (uniq hTf hT) (by decide))
 have M5:=M4.kept g4 (λe=>by injection e with e;subst e;exact gd M4 hTf)
 rw[Bq hkq]at s5
 have ei:(ah f').take (k*1)++[.int .i64 r]++(ah f').drop ((k+1)*1)=ah (f'.set k r):=by
  rw[Nat.mul_one,Nat.mul_one]
  unfold ah
  rw[List.map_set,List.set_eq_take_append_cons_drop,if_pos (by rw[List.length_map];exact hkf),List.append_assoc]
  rfl
 rw[ei]at o4
 refine⟨f5,s5,by rw[List.length_set];exact h.ql,?_,λj hj=>?_,o4,by rw[List.length_set];exact h.fl,?_,λj hj=>?_,?_⟩
 ·have e1:used (m.slots.take (n+1))+1=k+1:=by omega
  have hp:=h.qpre
  rw[hkk]at hp
  rw[e1,tD hkq,hp,qe hx,if_neg hk];rfl
 ·rw[List.getElem?_set_ne (by omega)];exact h.qrest j (by omega)
 ·have e1:used (m.slots.take (n+1))+1=k+1:=by omega
  have hp:=h.fpre
  rw[hkk]at hp
  rw[e1,tD hkf,hp,oo hs hr hk]
 ·rw[List.getElem?_set_ne (by omega)];exact h.frest j (by omega)
 ·unfold ksl
  rw[if_neg (by rw[aL hs];exact hk),hkk]
  exact M5
theorem PkAt.mid1 (h:PkAt w3 wr base tg v q p m x0 b5 nb mb n q' f') (hl:base<=w3.heap.size) (hmb:base<=mb) {w1:World} (g1:wr.grownBy w1 (some mb)):PkF w3 w1 base tg v q p m b5 nb mb/\w1.ownsRow base 108 3 (.slice v.sA v.sn v.sc) v.sn (q'.flatMap SV.cells)/\w1.ownsRow base 3 1 (.slice v.fA v.fn v.fc) v.fn (ah f'):=
 ⟨h.frame.kept g1 hl hmb (λ_ hT=>(gd h.map hT).elim),eB h.slots g1 (λhT=>gd h.map hT),eB h.refs g1 (λhT=>gd h.map hT)⟩
theorem PkF.mid2 {wa w2:World} {sb:Nat} (h:PkF w3 wa base tg v q p m b5 nb mb) (hl:base<=w3.heap.size) (s:wa.ownsRow base 108 3 (.slice v.sA v.sn v.sc) v.sn (q'.flatMap SV.cells)) (hA:v.sA=some ⟨sb,0,none⟩) (r:wa.ownsRow base 3 1 (.slice v.fA v.fn v.fc) v.fn (ah f')) (g2:wa.grownBy w2 (some sb)):
  PkF w3 w2 base tg v q p m b5 nb mb/\w2.ownsRow base 3 1 (.slice v.fA v.fn v.fc) v.fn (ah f'):=by
 have hTs:TypeB wa sb 108:=au s (by rw[hA];rfl)
 have hbs:base<=sb:=(s.lt sb (by rw[hA];rfl)).1
 have uniq:∀{T':TypeId},TypeB wa sb T'->T'=108:= λh2=>Classical.byContradiction λhne=>hTs.ne h2 (λe=>hne e.symm) rfl
 exact⟨h.kept g2 hl hbs (λT hT=>.inl (uniq hT)),eB r g2 (λhT=>absurd (uniq hT) (by decide))⟩
end
structure PkR (w3 wr:World) (base:Nat) (tg:Nat->Nat) (v:IV) (q:List SV) (p:List PV) (m:Img) (b5 nb mb:Nat) (ov:IV) (g:Int) (ks:List (Int×Int)):Prop where
 own:OwnI wr base tg v q p m
 box:Box wr b5 g ov
 boxB:BoxB wr b5
 nbox:wr.cell? ⟨nb,0,none⟩=some (.map (some mb))
 nG:BoxG wr nb 116
 map:MapAt wr mb ks
 below:Below base w3 wr
section
variable {w3 wr wr':World} {base b5 nb mb:Nat} {tg:Nat->Nat} {v ov:IV} {q:List SV} {p:List PV} {m:Img} {g:Int} {ks:List (Int×Int)}
theorem PkR.next (h:PkR w3 wr base tg v q p m b5 nb mb ov g ks) (hb:Below wr.heap.size wr wr') (hl:base<=w3.heap.size):PkR w3 wr' base tg v q p m b5 nb mb ov g ks:=
 ⟨h.own.next hb,h.box.keep hb h.boxB.ty.lt,h.boxB.next hb,(hb.cell (p:=⟨nb,0,none⟩) h.nG.ty.lt).trans h.nbox,h.nG.next hb,h.map.next hb,h.below.trans (hb.mono (Nat.le_trans hl h.below.size))⟩
theorem PkR.put {q':List SV} {p':List PV} {m':Img} {row:Option Nat} (h:PkR w3 wr base tg v q p m b5 nb mb ov g ks) (hg:wr.grownBy wr' row) (hr:∀b,row=some b->TypeB wr b 3/\base<=b) (hl:base<=w3.heap.size) (ho:OwnI wr' base tg v q' p' m'):PkR w3 wr' base tg v q' p' m' b5 nb mb ov g ks:=by
 have e5:some b5≠row:= λe=>h.boxB.ty.ne (hr b5 e.symm).1 (by decide) rfl
 have en:some nb≠row:= λe=>h.nG.ty.ne (hr nb e.symm).1 (by decide) rfl
 have em:some mb≠row:= λe=>gd h.map (hr mb e.symm).1
 exact⟨ho,h.box.kept hg e5,h.boxB.kept hg e5,hg.cell h.nbox en,h.nG.kept hg en,h.map.kept hg em,h.below.grown hg (Nat.le_trans hl h.below.size) (λj e=>(hr j e).2)⟩
end
section
variable {α:Type}
theorem lP {f:α->α} {xs:List α} {k:Nat} {x:α} (hx:xs[k]? =some x):((xs.take k).map f++xs.drop k).set k (f x)=(xs.take (k+1)).map f++xs.drop (k+1):=by
 have hk:=(zl hx)
 have hd:xs.drop k=x::xs.drop (k+1):=by
  rw[List.drop_eq_getElem_cons hk]
  congr 1
  exact(List.getElem?_eq_some_iff.1 hx).2
 have hl:((xs.take k).map f).length=k:=by rw[List.length_map,List.length_take];omega
 rw[hd,List.set_append_right _ _ (by omega),hl,Nat.sub_self,List.set_cons_zero,List.take_add_one,hx,List.map_append]
 simp
theorem renG_at {f:α->α} {xs:List α} {k:Nat}:((xs.take k).map f++xs.drop k)[k]? =xs[k]? :=by
 by_cases hk:k<xs.length
 ·have hl:((xs.take k).map f).length=k:=by rw[List.length_map,List.length_take];omega
  rw[List.getElem?_append_right (by omega),hl,Nat.sub_self,List.getElem?_drop,Nat.add_zero]
 ·rw[List.getElem?_eq_none (by simp;omega),List.getElem?_eq_none (by omega)]
end
end
end Go.Proofs.YtdbneghfbkjinaaGreatDoor
