/- Texts of the proof of deskPlays_holds: DLines, DRange, DKept, DBld. Conditions: as each text says. -/
import Derived.Test.YtdbneghfbkjinaaGreatDoorDA1
import Derived.Shelf.RegionOpen
import Derived.Test.YtdbneghfbkjinaaGreatDoorDA28
set_option maxRecDepth 100000
set_option maxHeartbeats 1000000
namespace Go.Proofs.YtdbneghfbkjinaaGreatDoor
section
open Go.Proofs.Tryz
open Go.RowKit Go.Shelf Sl
attribute [local go_sem] Oper.semAt_some
def Ends (r:List UInt8):Prop:=r=[]\/ ∃q,r=q++[10]
theorem Ends.at {r:List UInt8} (h:Ends r) (h0:r≠[]):∃k:Nat,Lib.indexByte r 10=(k:Nat)/\r[k]? =some 10/\ ∀j,j<k->r[j]? ≠some 10:=by
 rcases h with h|⟨q,hq⟩
 ·exact absurd h h0
 ·have hge:=Lib.indexByte_ge r 10
  by_cases hn:Lib.indexByte r 10= -1
  ·exact absurd (by rw[hq];simp) (Lib.indexByte_none hn q.length)
  ·obtain⟨k,hk⟩:∃k:Nat,Lib.indexByte r 10=(k:Nat):=⟨(Lib.indexByte r 10).toNat,by omega⟩
   obtain⟨h1,h2⟩:=Lib.indexByte_some hk
   exact⟨k,hk,h1,h2⟩
theorem Ends.drop {r:List UInt8} (h:Ends r) (k:Nat):Ends (r.drop k):=by
 rcases h with rfl|⟨q,rfl⟩
 ·exact .inl (by simp)
 ·by_cases hk:k<=q.length
  ·exact .inr ⟨q.drop k,by rw[List.drop_append_of_le_length hk]⟩
  ·exact .inl (List.drop_of_length_le (by simp;omega))
def tV (W:World) (b:Nat):Nat:=match W.cell? ⟨b,0,none⟩with
 |some (.string s)=>s.size
 |_=>0
theorem zt (n l bx:Nat) (hn:1<=n) (J:List UInt8->World->Prop)
  (hJc:∀r W,J r W->W.cell? ⟨bx,0,none⟩=some (.string (ofL r))/\W.frozen? ⟨bx,0,none⟩=false/\Ends r/\r.length<=100000)
  (hY:∀(r:List UInt8) (k:Nat) (W:World),J r W->r[k]? =some 10->(∀j,j<k->r[j]? ≠some 10)->YieldAt Fence.wide (n-1) prog l #[.string (ofL (r.take (k+1)))] (W.setCell ⟨bx,0,none⟩ (.string (ofL (r.drop (k+1))))).drew λe W'=>e=.returned (.bool true)/\J (r.drop (k+1)) W')
  (r0:List UInt8) (W:World) (h0:J r0 W):
  CallsIn Fence.wide n prog 22 #[.func (.yield l) #[] #[],.pointer (some ⟨bx,0,none⟩)] W λe W'=>(∃v,e=.returned v)/\J [] W':=by
 refine callsIn_of_wp func22 rfl trivial ?_ rfl
 simp only[ntmps22,List.size_toArray,List.length_cons,List.length_nil,Nat.reduceAdd,Nat.reduceSub,Array.replicate_succ,Array.replicate_zero,List.push_toArray,List.append_toArray,List.nil_append,List.cons_append]
 gi_wp2
 gi_loopw [] (λwr=>∃r:List UInt8,J r wr) (λwr=>tV wr bx)
 case atStart=>exact⟨r0,h0⟩
 case round=>
  obtain⟨r,hJ⟩:=hrel
  obtain⟨hc,hf,he,hl⟩:=hJc r _ hJ
  have hsz:((ofL r).size:Int)=(r.length:Nat):=by rw[aT]
  have hst:tV wr bx=r.length:=by unfold tV;rw[hc];exact aT r
  by_cases h0:r=[]
  ·subst h0
   have hz:(ofL ([]:List UInt8)).size=0:=rfl
   have HJ:=zh hJ
   clear hJ hJc hY
   gi_wp2
   go_end0
   exact⟨⟨_,rfl⟩,HJ.o⟩
  ·obtain⟨k,hk,hk1,hk2⟩:=he.at h0
   have hkl:=(zl hk1)
   have KI:=zh (λW=>strings_IndexByte (ofL r) 10 W)
   rw[show(ofL r).data.toList=r from aZ r,show((10:Int).toNat.toUInt8)=10 from rfl,hk]at KI
   have E1:=uQ r (k+1)
   have E2:=nN r (k+1)
   have hYk:=hY r k wr hJ hk1 hk2
   rw[<-E1,<-E2]at hYk
   obtain⟨fn,tmps,assign,body,hy,hR⟩:=hYk
   have HR:=zh hR
   have HD:=zh (show(r.drop (k+1)).length<r.length from by rw[List.length_drop];omega)
   have HC:=zh hJc
   have hpos:(0:Int)<(r.length:Nat):=by have:=hkl;omega
   have hkk:((k:Nat):Int)+1<=(r.length:Nat):=by omega
   clear hJ hJc hY hR hk hk1 hk2 E1 E2 he h0 hkl
   generalize hofs:ofL r=s at*
   have hsz':s.size=r.length:=by omega
   gi_wp2_with (refine⟨trivial,?_⟩;gi_at_call 23;refine(callsIn_wide.2 (KI.o _)).mono ?_;rintro e w' ⟨rfl,rfl⟩)
   have hmx:prog.follows .mixedOrders=true:=by kernel_rfl
   have e0:(0:Int)<=(k:Int)+1:=by omega
   have e1:(k:Int)+1<=(s.size:Int):=by omega
   have e2:k+1<=s.size:=by omega
   have e3:(0:Int)<=(k:Int):=by omega
   have e4:(k:Int)<(s.size:Int):=by omega
   have e5:s.size<=100000:=by omega
   clear hsz hsz' hl hpos hkk e2
   have hwr:IntKind.i64.wrap ((k:Int)+1)=(k:Int)+1:=by go_bits;trivial
   gi_region_with_o (fail)
   all_goals
    gi_wp2
    refine HR.o.mono ?_
    rintro e W' ⟨rfl,hJ'⟩
    gi_wp2
    go_roundw
    case rel=>exact⟨_,hJ'⟩
    case measure=>
     have hq:=(HC.o _ _ hJ').1
     have:tV W' bx=(r.drop (k+1)).length:=by unfold tV;rw[hq];exact aT _
     rw[this,hst]
     exact HD.o
end
section
open Go.Proofs.Tryz
open Go.RowKit Go.Shelf Sl
theorem pa {W:World} {b:Nat} {x y:Value} {T:TypeId} (h:W.heap[b]? =some (.cells #[x] T (0,0))):(W.setCell ⟨b,0,none⟩ y).heap[b]? =some (.cells #[y] T (0,0)):=by
 simp[World.setCell,Array.getElem?_modify,h]
def tW (B bx:Nat) (I:List UInt8->World->Prop) (r:List UInt8) (W:World):Exit->Act->World->Prop
 | .normal,_,W'=>KeepsFrom B W W'/\W'.heap[bx]? =W.heap[bx]? /\I r W'
 |_,_,_=>False
theorem ua {n:Nat} {g:Operand} {ps:Array Tmp} {assign body:Code} {Q:Exit->Act->World->Prop} {a:Act} {w:World} {bx:Nat} {r0:List UInt8} (hn:4<=n)
  (hg:a.eval g=.func (.func 22) #[] #[.pointer (some ⟨bx,0,none⟩)]) (hps:ps.size=1) (hbx:bx<w.heap.size)
  (hc:w.heap[bx]? =some (.cells #[.string (ofL r0)] 9 (0,0))) (he:Ends r0) (hl:r0.length<=100000)
  (I:List UInt8->World->Prop) (hI1:∀r W v,I r W->I r (W.setCell ⟨bx,0,none⟩ v).drew) (hI2:∀r W l o o',I r W->w.heap.size<=l->W.heap[l]? =some o->o.isCells=false->I r (W.putObj l o'))
  (hI3:∀r W o,I r W->I r (W.alloc o)) (h0:I r0 w) (p q:Nat)
  (hassign:∀(l:Nat) (x:ByteArray) (W:World) (K:Act->World->Prop),K {tmps:=(a.tmps.setIfInBounds p (.string x)).setIfInBounds q (.string x),defers:=[]} W->
   assign.wpIn (Fence.wide.inRound l) (n-1-1) prog (Exit.then K (λ_ _ _=>False)) {tmps:=(ps.zip #[.string x]).foldl (λt (p,v)=>t.setIfInBounds p v) a.tmps,defers:=[]} W)
  (hbody:∀(l:Nat) (r:List UInt8) (k:Nat) (W:World),I r W->r[k]? =some 10->(∀j,j<k->r[j]? ≠some 10)->body.wpIn (Fence.wide.inRound l) (n-1-1) prog (tW w.heap.size bx I (r.drop (k+1)) W) {tmps:=(a.tmps.setIfInBounds p (.string (ofL (r.take (k+1))))).setIfInBounds q (.string (ofL (r.take (k+1)))),defers:=[]} W)
  (hdone:∀(D:Nat) (W:World),w.heap.size<=D->I [] W->W.heap[D]? =some (.deferred (some []))->Q .normal {a with defers:={target:=.collected D,args:=#[]}::a.defers} W):
  (Code.rangeFunc g ps assign body).wpIn Fence.wide n prog Q a w:=by
 refine wpIn_rangeFunc ?_
 intro fn hfn
 rw[show Fence.wide.round=none from rfl]
 obtain⟨rec,hrec⟩:∃rec:LoopState->Option Code->Loop,rec= λst pe=>{state:=st,pending:=pe,fn,tmps:=a.tmps,params:=ps,assign,body,defers:=w.heap.size}:=⟨_,rfl⟩
 obtain⟨W1,hW1⟩:∃W1,(w.alloc (.deferred (some []))).alloc (.loop (rec .ready none))=W1:=⟨_,rfl⟩
 have hL1:W1.heap[w.heap.size+1]? =some (.loop (rec .ready none)):=by
  rw[<-hW1];have:=World.alloc_heap_new (w.alloc (.deferred (some []))) (.loop (rec .ready none));rwa [World.size_alloc]at this
 have hK1:W1.heap[w.heap.size]? =some (.deferred (some [])):=by
  rw[<-hW1];exact(Below.heap_alloc _ _ _ (by simp)).trans (World.alloc_heap_new w _)
 have hI1':I r0 W1:=by rw[<-hW1];exact hI3 _ _ _ (hI3 _ _ _ h0)
 have hc1:W1.heap[bx]? =some (.cells #[.string (ofL r0)] 9 (0,0)):=by
  rw[<-hW1];exact(Below.heap_alloc _ _ _ (by simp;omega)).trans ((Below.heap_alloc _ _ _ hbx).trans hc)
 refine⟨w.heap.size+1,[{target:=.collected w.heap.size,args:=#[]}],W1,{target:=.fn (.func 22) #[.pointer (some ⟨bx,0,none⟩)],args:=#[.func (.yield (w.heap.size+1)) #[] #[]]},W1,22,
  #[.func (.yield (w.heap.size+1)) #[] #[],.pointer (some ⟨bx,0,none⟩)],W1,?_,?_,?_,?_,λ_=>by omega,?_⟩
 ·rw[<-hW1,hrec];exact run_enterLoop_outer _ _ _ _ _
 ·simp only[resolve,hg]
  simp[go_sem]
 ·intro f' hf';trivial
 ·simp[invoke,go_sem]
 ·refine(zt (n-1) (w.heap.size+1) bx (by omega)
   (λr W=>I r W/\W.heap[bx]? =some (.cells #[.string (ofL r)] 9 (0,0))/\Ends r/\r.length<=100000/\W.heap[w.heap.size+1]? =some (.loop (rec .ready none))/\W.heap[w.heap.size]? =some (.deferred (some [])))
   (λr W h=>⟨by rw[Lib.cell_of_heap h.2.1];rfl,Lib.frozen_of_heap h.2.1 0,h.2.2.1,h.2.2.2.1⟩) ?_ r0 W1 ⟨hI1',hc1,he,hl,hL1,hK1⟩).mono ?_
  ·rintro r k W0 ⟨hi0,hx0,hr,hlen,hl0,hk0⟩ hq1 hq2
   have hi:=hI1 r W0 (.string (ofL (r.drop (k+1)))) hi0
   have hx:(W0.setCell ⟨bx,0,none⟩ (.string (ofL (r.drop (k+1))))).drew.heap[bx]? =some (.cells #[.string (ofL (r.drop (k+1)))] 9 (0,0)):=pa hx0
   have hl:(W0.setCell ⟨bx,0,none⟩ (.string (ofL (r.drop (k+1))))).drew.heap[w.heap.size+1]? =some (.loop (rec .ready none)):=(Below.heap_setCell _ _ _ _ (by simp;omega)).trans hl0
   have hk:(W0.setCell ⟨bx,0,none⟩ (.string (ofL (r.drop (k+1))))).drew.heap[w.heap.size]? =some (.deferred (some [])):=(Below.heap_setCell _ _ _ _ (by simp;omega)).trans hk0
   generalize (W0.setCell ⟨bx,0,none⟩ (.string (ofL (r.drop (k+1))))).drew=W at*
   have hlt:w.heap.size+1<W.heap.size:=(za hl)
   have hy:=run_yield (P:=prog) (args:=#[.string (ofL (r.take (k+1)))]) hl (by rw[hrec];exact hps.symm)
   rw[hrec]at hy
   refine⟨fn,_,assign,body,hy,roundIn_of_wpIn hfn (hassign _ _ W _ ⟨_,run_beginRound hl (by rw[hrec]),?_⟩)⟩
   have hl2:(W.putObj (w.heap.size+1) (.loop {rec .ready none with state:=.busy})).heap[w.heap.size+1]? =some (.loop {rec .ready none with state:=.busy}):=World.putObj_heap_same hlt
   have hk2:(W.putObj (w.heap.size+1) (.loop {rec .ready none with state:=.busy})).heap[w.heap.size]? =some (.deferred (some [])):=(World.putObj_heap_other (by omega)).trans hk
   have hx2:(W.putObj (w.heap.size+1) (.loop {rec .ready none with state:=.busy})).heap[bx]? =some (.cells #[.string (ofL (r.drop (k+1)))] 9 (0,0)):=(World.putObj_heap_other (by omega)).trans hx
   refine wpIn_mono (hbody _ r k _ (hI2 _ _ _ _ _ hi (by omega) hl rfl) hq1 hq2) ?_
   rintro e a3 W3 hp
   cases e with
   |normal=>
    obtain⟨hk3,hx3,hi3⟩:=hp
    have hl3:=hk3.same _ _ (by omega) hl2 rfl
    have hr3:=run_endRound (P:=prog) none hl3
    rw[hrec]at hr3 hl3
    refine⟨_,_,hr3,?_⟩
    refine⟨rfl,hI2 _ _ _ _ _ hi3 (by omega) hl3 rfl,(World.putObj_heap_other (by omega)).trans (hx3.trans hx2),hr.drop _,by rw[List.length_drop];omega,?_,(World.putObj_heap_other (by omega)).trans (hk3.same _ _ (Nat.le_refl _) hk2 rfl)⟩
    have:=World.putObj_heap_same (o:=.loop {state:=.ready,pending:=none,fn,tmps:=a.tmps,params:=ps,assign,body,defers:=w.heap.size}) (za hl3)
    rw[hrec]
    exact this
   |_=>exact hp.elim
  ·rintro e W2 ⟨⟨v,rfl⟩,hi,hx,_,_,hl,hk⟩
   exact⟨none,_,by have:=run_endLoop (P:=prog) hl (by rw[hrec];simp);rw[hrec]at this;exact this,hdone _ _ (Nat.le_refl _) (hI2 _ _ _ _ _ hi (by omega) hl rfl) ((World.putObj_heap_other (by omega)).trans hk)⟩
end
section
open Go.RowKit Sl
structure KT (N:TypeId->Prop) (W W':World):Prop where
 size:W.heap.size<=W'.heap.size
 same:∀(k:Nat) (c:Array Value) (T:TypeId) (fr:Nat×Nat),W.heap[k]? =some (Obj.cells c T fr)->¬N T->W'.heap[k]? =W.heap[k]?
section
variable {N:TypeId->Prop} {W W' W'':World}
theorem KT.trans (h:KT N W W') (k:KT N W' W''):KT N W W'':=⟨Nat.le_trans h.size k.size,λj c T fr hj hT=>(k.same j c T fr ((h.same j c T fr hj hT).trans hj) hT).trans (h.same j c T fr hj hT)⟩
theorem KT.drew (h:KT N W W'):KT N W W'.drew:=⟨h.size,h.same⟩
theorem KT.below (h:Below W.heap.size W W'):KT N W W':=⟨h.size,λk _ _ _ hk _=>h.block k (za hk)⟩
theorem KT.grown {b:Nat} {T:TypeId} (h:W.grownBy W' (some b)) (hT:TypeB W b T) (hN:N T):KT N W W':=⟨h.size,λk c U fr hk hU=>h.block k (za hk) (λe=>by
 injection e with e
 subst e
 obtain⟨c2,f2,h2⟩:=hT
 rw[h2]at hk
 injection hk with hk
 injection hk with _ hk _
 exact hU (hk▸hN))⟩
theorem KT.put (l:Nat) (o o':Obj) (h:W.heap[l]? =some o) (ho:o.isCells=false):KT N W (W.putObj l o'):=⟨by simp,λk c T fr hk _=>World.putObj_heap_other λe=>by
 subst e
 rw[hk]at h
 injection h with h
 subst h
 cases ho⟩
theorem KT.own {base size n:Nat} {e:TypeId} {v:Value} {xs:List Value} (h:KT N W W') (he:¬N e) (ho:W.ownsRow base e size v n xs):W'.ownsRow base e size v n xs:=by
 refine⟨ho.1,ho.2.imp id ?_⟩
 rintro ⟨g,cap,cur,hv,hB,hg,r⟩
 exact⟨g,cap,cur,hv,hB,(h.same _ _ _ _ hg he).trans hg,r⟩
theorem KT.tab {base t n c:Nat} {tg:Nat->Nat} {A:Option Addr} {xs:List Int} (h:KT N W W') (he:¬N 3) (ho:TabO W base tg t A n c xs):TabO W' base tg t A n c xs:=
 ⟨ho.1,ho.2.1,ho.2.2.imp id λ⟨h1,h2⟩=>⟨h.own he h1,h2⟩⟩
theorem KT.img {base:Nat} {tg:Nat->Nat} {v:IV} {q:List SV} {p:List PV} {m:Img} (h:KT N W W') (h1:¬N 3) (h2:¬N 108) (h3:¬N 102) (ho:OwnI W base tg v q p m):OwnI W' base tg v q p m:=
 ⟨h.tab h1 ho.root,h.tab h1 ho.refs,h.own h2 ho.slots,ho.sle,ho.scap,h.own h3 ho.snaps,ho.ple,ho.pcap,ho.hq,ho.hp,λk x hx=>⟨(ho.tabs k x hx).1,h.tab h1 (ho.tabs k x hx).2⟩,λk x hx=>⟨(ho.roots k x hx).1,h.tab h1 (ho.roots k x hx).2⟩⟩
theorem KT.cell {b j:Nat} {T:TypeId} (h:KT N W W') (hT:TypeB W b T) (hN:¬N T):W'.cell? ⟨b,j,none⟩=W.cell? ⟨b,j,none⟩:=by
 obtain⟨c,fr,hb⟩:=hT
 exact World.cell?_of_block (a:=⟨b,j,none⟩) (h.same _ _ _ _ hb hN)
theorem KT.tbl {tb:Nat} {m:Img} (h:KT N W W') (h1:¬N 3) (h2:¬N 108) (h3:¬N 102) (h4:¬N 37) (ht:Tb W tb m):Tb W' tb m:=by
 obtain⟨base,tg,v,q,p,ho,x0,x1,x2,x3,x4⟩:=ht.img
 have hc:= λj=>h.cell (j:=j) ht.ty.ty h4
 obtain⟨c,hb⟩:=ht.ty
 exact⟨⟨c,(h.same _ _ _ _ hb h4).trans hb⟩,base,tg,v,q,p,h.img h1 h2 h3 ho,(hc 0).trans x0,(hc 1).trans x1,(hc 2).trans x2,(hc 3).trans x3,(hc 4).trans x4⟩
theorem KT.bld {B b:Nat} {bs:List Value} (h:KT N W W') (h1:¬N 5) (h2:¬N 41) (hb:Lib.IsBuilder 41 5 B b bs W):Lib.IsBuilder 41 5 B b bs W':=
 hb.imp (λ⟨k0,v,k1,k2,k3⟩=>⟨k0,v,(h.same _ _ _ _ k1 h2).trans k1,h.own h1 k2,k3⟩) (λ⟨k0,v,k1,k2,k3⟩=>⟨k0,v,(h.same _ _ _ _ k1 h2).trans k1,h.own h1 k2,k3⟩)
end
end
section
open Go.Proofs.Tryz
open Go.RowKit Sl
theorem ub:(prog.info? 41).map (·.size)=some 2:=by kernel_rfl
theorem BO:liesAt prog prog.depth 41 (2/prog.cellsOf 41) 0 41 1=true:=by kernel_rfl
theorem ws (b:Nat) (w:World) (h0:w.cell? ⟨b,0,none⟩=some (.pointer (some ⟨b,0,none⟩))):
  Calls prog 24 #[.pointer (some ⟨b,0,none⟩)] w λe w'=>e=.returned (.tuple #[])/\w'=w:=by
 obtain⟨j,hj,_⟩:=Option.map_eq_some_iff.1 ub
 go_enter func24,ntmps24
 go_wp2_with fail
 rw[Lib.run_neq_ptr_same w _ underlying38 hj]
 go_wp2_with fail
 go_end0
 exact⟨rfl,rfl⟩
theorem ud (b:Nat) (w:World) (h0:w.cell? ⟨b,0,none⟩=some (.pointer none)) (hsh:w.shape? b=some (41,2)) (hfz:w.frozen? ⟨b,0,none⟩=false):
  Calls prog 24 #[.pointer (some ⟨b,0,none⟩)] w λe w'=>e=.returned (.tuple #[])/\w'=w.setCell ⟨b,0,none⟩ (.pointer (some ⟨b,0,none⟩)):=by
 obtain⟨j,hj,hjs⟩:=Option.map_eq_some_iff.1 ub
 go_enter func24,ntmps24
 go_wp2_with fail
 rw[Lib.run_to_unsafe w ⟨b,0,none⟩ underlying38 underlying80 hj (by rw[hjs];decide) hsh (Nat.zero_lt_succ 1)]
 simp only[Result.andThen]
 rw[Oper.upon_value]
 go_wp2_with fail
 rw[run_callFunc_extern func57 (by kernel_rfl) (by kernel_rfl) (by kernel_rfl) (e:=Extern.AbiNoEscape.same) (by kernel_rfl)]
 rw[Lib.run_noEscape]
 simp only[Result.andThen]
 rw[Oper.upon_value]
 go_wp2_with fail
 rw[Lib.run_from_unsafe w ⟨b,0,none⟩ underlying80 underlying38 hj hsh BO]
 simp only[Result.andThen]
 rw[Oper.upon_value]
 go_wp2_with fail
 go_end0
 exact⟨rfl,rfl⟩
theorem zu (B b:Nat) (bs:List Value) (w:World) (h:Lib.IsBuilder 41 5 B b bs w):
  Calls prog 24 #[.pointer (some ⟨b,0,none⟩)] w λe w'=>e=.returned (.tuple #[])/\Lib.BuilderAt 41 5 B b (.pointer (some ⟨b,0,none⟩)) bs w'/\Below B w w'/\w.grownBy w' (some b):=by
 rcases h with h|h
 ·refine(ud b w h.cell0 h.shape h.frozen0).mono ?_
  rintro e w' ⟨rfl,rfl⟩
  exact⟨rfl,h.used _,(Below.refl B w).setCell (p:=⟨b,0,none⟩) h.1 _,ai w b 0 _⟩
 ·refine(ws b w h.cell0).mono ?_
  rintro e w' ⟨rfl,rfl⟩
  exact⟨rfl,h,Below.refl B _,World.grownBy.refl _ _⟩
def wsN (T:TypeId):Prop:=T=5\/T=41
theorem wt {B b:Nat} {p:Value} {bs:List Value} {w:World} (h:Lib.BuilderAt 41 5 B b p bs w):TypeB w b 41:=by obtain⟨_,v,hb,_⟩:=h;exact⟨_,_,hb⟩
theorem ue {w w':World} {row:Option Nat} (hg:w.grownBy w' row) (hr:∀j,row=some j->∃T,TypeB w j T):KeepsOthers w w':=KeepsOthers.of_grownBy hg λj o e hj=>by
 obtain⟨T,c,fr,h⟩:=hr j e
 rw[h]at hj
 injection hj with hj
 subst hj
 rfl
theorem BP (B b:Nat) (bs:List Value) (s:ByteArray) (w:World) (h:Lib.IsBuilder 41 5 B b bs w) (hlen:bs.length+s.size<=1000000) (hBw:B<=w.heap.size):
  Calls prog 11 #[.pointer (some ⟨b,0,none⟩),.string s] w λe w'=>(∃v,e=.returned v)/\Lib.BuilderAt 41 5 B b (.pointer (some ⟨b,0,none⟩)) (bs++Lib.strCells s) w'/\Below B w w'/\KT wsN w w'/\KeepsOthers w w':=by
 obtain⟨i0,hi,hz0,hz1,hz2⟩:=info_parts infoU8
 have KC:=zh (zu B b bs w h)
 have HTy:=zh (show TypeB w b 41 from h.elim wt wt)
 clear h
 go_enter func11,ntmps11
 go_wp2_with fail
 refine KC.o.mono ?_
 rintro e w1 ⟨rfl,h1,hb1,hg1⟩
 have HG1:=zh hg1
 have HT1:=zh (wt h1)
 clear hg1
 obtain⟨hB,v,hbk,hown,hne⟩:=h1
 have c0:w1.cell? ⟨b,0,none⟩=some (.pointer (some ⟨b,0,none⟩)):=by rw[Lib.cell_of_heap hbk];rfl
 have c1:w1.cell? ⟨b,1,none⟩=some v:=by rw[Lib.cell_of_heap hbk];rfl
 have hs1:=hb1.size
 go_wp2_with (at_builtin;refine Lib.wpList_append_own_string _ rfl _ _ 39 9 rfl B 5 i0 underlying39 underlying9 hi hz0 hz1 hz2 _ _ _ rfl hown s rfl ?c3 ?c4 ?c5 ?_)
 case c3=>unfold maxLen;omega
 case c4=>omega
 case c5=>omega
 intro v' w2 hown' hgrow _
 have hlt:b<w1.heap.size:=by
  rcases Nat.lt_or_ge b w1.heap.size with h'|h'
  ·exact h'
  ·simp[Array.getElem?_eq_none h']at hbk
 have hb2:w2.heap[b]? =some (.cells #[.pointer (some ⟨b,0,none⟩),v] 41 (0,0)):=by
  rw[hgrow.block b hlt (λe=>hne e.symm)]
  exact hbk
 have HK:=zh (show KT wsN w1 w2/\KeepsOthers w1 w2 from⟨⟨hgrow.size,λk c U fr hk hU=>hgrow.block k (za hk) (λe=>by
  obtain⟨c2,f2,h2⟩:=au hown e.symm
  rw[h2]at hk
  injection hk with hk
  injection hk with _ hk _
  exact hU (hk▸ .inl rfl))⟩,ue hgrow λj e=>⟨_,au hown e⟩⟩)
 have HT2:=zh (show TypeB w2 b 41 from⟨_,_,hb2⟩)
 have d0:w2.cell? ⟨b,0,none⟩=some (.pointer (some ⟨b,0,none⟩)):=by rw[Lib.cell_of_heap hb2];rfl
 have d1:w2.cell? ⟨b,1,none⟩=some v:=by rw[Lib.cell_of_heap hb2];rfl
 have f1:w2.frozen? ⟨b,1,none⟩=false:=Lib.frozen_of_heap hb2 1
 obtain⟨ao,n',cap,rfl⟩:∃ao n' cap,v'=.slice ao n' cap:=by
  rcases hown'.2 with⟨hv,_⟩|⟨g,cap,cur,hv,_⟩
  ·exact⟨_,_,_,hv⟩
  ·exact⟨_,_,_,hv⟩
 go_wp2_with fail
 go_ret2
 refine⟨⟨_,rfl⟩,?_,?_,((KT.grown HG1.o HTy.o (.inr rfl)).trans HK.o.1).trans (KT.grown (ai w2 b 1 _) HT2.o (.inr rfl)),((ue HG1.o λj e=>by cases e;exact⟨_,HTy.o⟩).trans HK.o.2).trans (KeepsOthers.setCell _ _ _)⟩
 ·exact Lib.BuilderAt.put (T:=41) (e:=5) hB hb2 (bs':=bs++Lib.strCells s) (by simpa[Lib.strCells_length]using hown') (by decide)
 ·exact(hb1.grown hgrow (by omega) (λk hk=>(hown.lt k hk).1)).setCell (p:=⟨b,1,none⟩) hB _
end
end Go.Proofs.YtdbneghfbkjinaaGreatDoor
