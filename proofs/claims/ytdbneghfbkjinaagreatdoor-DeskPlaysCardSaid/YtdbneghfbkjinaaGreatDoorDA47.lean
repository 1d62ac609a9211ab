/- Texts of the proof of deskPlays_holds: RWritesC. Conditions: as each text says. -/
import Derived.Test.YtdbneghfbkjinaaGreatDoorDA1
import Derived.Test.YtdbneghfbkjinaaGreatDoorDA45
set_option maxRecDepth 100000
set_option maxHeartbeats 8000000
namespace Go.Proofs.YtdbneghfbkjinaaGreatDoor
open Go.Proofs.Tryz
open Go.RowKit Sl
theorem OwnI.slotSetO {w:World} {base:Nat} {tg:Nat->Nat} {v:IV} {q:List SV} {p:List PV} {m:Img} (h:OwnI w base tg v q p m) {sb k i:Nat} {x':SV} {u:Value} (hA:v.sA=some ⟨sb,0,none⟩) (hf:(q.flatMap SV.cells).set i u=(q.set k x').flatMap SV.cells)
  (hd:x'.s.data.size<=4611686018427387903) (ht:TabO w base tg (2*k+4) x'.A x'.n x'.c x'.s.table):
  OwnI (w.setCell ⟨sb,i,none⟩ u) base tg v (q.set k x') p {m with slots:=m.slots.set k x'.s}/\base<=sb/\TypeB w sb 108:=by
 have h0:=h.slots
 rw[hA]at h0
 obtain⟨o1,g1⟩:=h0.stored i u
 rw[hf]at o1
 exact⟨h.turned hA g1 (by rw[hA];exact o1) hd ht,(h0.lt sb rfl).1,au h0 rfl⟩
theorem OwnI.setDataO {w:World} {base:Nat} {tg:Nat->Nat} {v:IV} {q:List SV} {p:List PV} {m:Img} (h:OwnI w base tg v q p m) {k:Nat} {s:Slot} (hs:m.slots[k]? =some s) {d:ByteArray} (hd:d.size<=4611686018427387903):
  ∃sb q',v.sA=some ⟨sb,0,none⟩/\k<v.sn/\base<=sb/\TypeB w sb 108/\w.cell? ⟨sb,k*3+1,none⟩=some (.string s.data)/\w.frozen? ⟨sb,k*3+1,none⟩=false/\
  OwnI (w.setCell ⟨sb,k*3+1,none⟩ (.string d)) base tg v q' p {m with slots:=m.slots.set k {s with data:=d}}:=by
 have hl:k<v.sn:=by have:=h.imgR.slen;have:=(zl hs);omega
 obtain⟨sb,hA,hb,_⟩:=bK h.slots (by omega)
 have hq:k<q.length:=by have:=h.qlen;omega
 have hx:=List.getElem?_eq_getElem hq
 have hxs:q[k].s=s:=by
  have:=h.hq
  rw[<-this,List.getElem?_map,hx]at hs
  injection hs
 have h0:=h.slots
 rw[hA]at h0
 have c1:=h0.cellAt (k*3+1) (by omega)
 rw[av SV.cells SV.cells_len q k _ hx 1 (by omega)]at c1
 have hf:=h0.frozenAt (k*3+1)
 obtain⟨d1,d2,d3⟩:=h.slotSetO hA (pU hx d) hd (h.tabs k _ hx).2
 refine⟨sb,_,hA,hl,d2,d3,?_,hf,by rw[<-hxs];exact d1⟩
 rw[<-hxs];exact c1
theorem OwnI.setTabO {w:World} {base:Nat} {tg:Nat->Nat} {v:IV} {q:List SV} {p:List PV} {m:Img} (h:OwnI w base tg v q p m) {k:Nat} {s:Slot} (hs:m.slots[k]? =some s) {i:Nat} (hi:i<s.table.length) (y:Int):
  ∃sb g n c q',v.sA=some ⟨sb,0,none⟩/\k<v.sn/\n=s.table.length/\w.cell? ⟨sb,k*3+2,none⟩=some (.slice (some ⟨g,0,none⟩) n c)/\base<=g/\TypeB w g 3/\w.frozen? ⟨g,i,none⟩=false/\(∃u,w.cell? ⟨g,i,none⟩=some (.int .i64 u))/\
  OwnI (w.setCell ⟨g,i,none⟩ (.int .i64 y)) base tg v q' p {m with slots:=m.slots.set k {s with table:=s.table.set i y}}:=by
 have hl:k<v.sn:=by have:=h.imgR.slen;have:=(zl hs);omega
 obtain⟨sb,hA,hb,_⟩:=bK h.slots (by omega)
 have hq:k<q.length:=by have:=h.qlen;omega
 have hx:=List.getElem?_eq_getElem hq
 have hxs:q[k].s=s:=by
  have:=h.hq
  rw[<-this,List.getElem?_map,hx]at hs
  injection hs
 generalize q[k]=x at hx hxs
 obtain⟨xs,xA,xn,xc⟩:=x
 dsimp only at hxs
 subst hxs
 have hT:=(h.tabs k _ hx)
 dsimp only at hT
 have hxn:xn=xs.table.length:=hT.2.rd.len.symm
 obtain⟨g,hAg,h1,h2,h3,h4,⟨u,_,hu⟩,h6,h7⟩:=hT.2.stored (k:=i) (by omega) y
 have hg:=ai w g i (.int .i64 y)
 have ht:∀{t n c:Nat} {A:Option Addr} {xs:List Int},TabO w base tg t A n c xs->t≠2*k+4->TabO (w.setCell ⟨g,i,none⟩ (.int .i64 y)) base tg t A n c xs:= λhh hn=>hh.kept hg λb' e _=>by injection e with e;subst e;exact .inr (by omega)
 have hfl:q.flatMap SV.cells=(q.set k ⟨{xs with table:=xs.table.set i y},xA,xn,xc⟩).flatMap SV.cells:=by
  rw[<-nX hx (xs.table.set i y) xA xn xc]
  exact(ir (by rw[av SV.cells SV.cells_len q k _ hx 2 (by omega)];rfl)).symm
 have h0:=h.slots
 rw[hA]at h0
 have c1:=h0.cellAt (k*3+2) (by omega)
 rw[av SV.cells SV.cells_len q k _ hx 2 (by omega)]at c1
 have c1:w.cell? ⟨sb,k*3+2,none⟩=some (.slice xA xn xc):=c1
 rw[hAg]at c1
 have hsl:=h.slots.kept hg (bH h.slots h4 (by decide))
 rw[hfl]at hsl
 refine⟨sb,g,xn,xc,_,hA,hl,hxn,c1,h1,h4,h6,⟨u,hu⟩,⟨ht h.root (by omega),ht h.refs (by omega),hsl,h.sle,h.scap,h.snaps.kept hg (bH h.snaps h4 (by decide)),h.ple,h.pcap,?_,h.hp,λj z hz=>?_,λj z hz=>⟨(h.roots j z hz).1,ht (h.roots j z hz).2 (by omega)⟩⟩⟩
 ·rw[List.map_set,h.hq]
 ·rw[List.getElem?_set]at hz
  by_cases hjk:k=j
  ·subst hjk
   rw[if_pos rfl,if_pos hq]at hz
   injection hz with hz
   subst hz
   exact⟨hT.1,h7⟩
  ·rw[if_neg hjk]at hz
   exact⟨(h.tabs j z hz).1,ht (h.tabs j z hz).2 (by omega)⟩
theorem mT {m:Img} (hm:ab m=0) {d:Nat} {s:Slot} {pg:ByteArray} (hs:m.slots[d]? =some s) (hS:Sound {m with slots:=m.slots.set d {s with data:=pg}}):ap {m with slots:=m.slots.set d {s with data:=pg}}={m with slots:=m.slots.set d {s with data:=pg}}:=by
 have hkN:∀i,br (m.slots.set d {s with data:=pg}) i=br m.slots i:= λi=>mi (s:={s with data:=pg}) hs rfl i
 have htN:∀i,aK (m.slots.set d {s with data:=pg}) i=aK m.slots i:= λi=>kE (s:={s with data:=pg}) hs rfl i
 have hcs:aM {m with slots:=m.slots.set d {s with data:=pg}}=aM m:=by
  rw[bN,bN]
  have hl:(m.slots.set d {s with data:=pg}).length=m.slots.length:=by simp
  dsimp only
  rw[hl]
  exact cr λj _=>by
   have:=mh (x:=m) (y:={m with slots:=m.slots.set d {s with data:=pg}}) (by simp) hkN htN rfl j
   unfold cnt at this
   rw[this]
 refine nr (lh (hS.shape (by have:=dw hm;simpa using this)) (upto_iff.2 λk hk=>?_))
 have:=(aq hm).2 k (by simpa using hk)
 unfold dS at this⊢
 rw[hcs]
 dsimp only
 rw[hkN]
 exact this
theorem oC {m:Img} {k j:Nat} (hj:int m.root k=(j:Nat)) (h1:1<=j) (hr:int m.refs j=1):gu m k=true:=by unfold gu;rw[hj,Int.toNat_natCast,hr,decide_eq_true (by omega)];rfl
theorem BV {l:List Slot} {g:Nat} (hg:g<=l.length) (a b u:Slot):(laid l g a).set g u=(laid l g b).set g u:=by
 unfold laid
 split
 ·rename_i e
  subst e
  rw[List.set_append_right _ _ (Nat.le_refl _),List.set_append_right _ _ (Nat.le_refl _),Nat.sub_self];rfl
 ·rw[List.set_set,List.set_set]
theorem zG {l:List Slot} {g:Nat} (a b:Slot):(laid l g a).length=(laid l g b).length:=by rw[df,df]
theorem qu {l:List Slot} {g d:Nat} (hg:g<l.length) (hgd:g≠d) (s u:Slot):(laid l d s).set g u=laid (l.set g u) d s:=by
 unfold laid
 rw[List.length_set]
 split
 ·rw[List.set_append_left _ _ hg]
 ·rw[List.set_comm _ _ (λe=>hgd e.symm)]
theorem zH {l:List Slot} {g d:Nat} (hg:g<=l.length) (hgd:g≠d) (a b s u:Slot):(laid (laid l g a) d s).set g u=(laid (laid l g b) d s).set g u:=by
 have h1:∀a,g<(laid l g a).length:= λa=>(List.getElem?_eq_some_iff.1 (du (s:=a) hg)).1
 rw[qu (h1 a) hgd,qu (h1 b) hgd,BV hg a b]
theorem kw:∀(l l':List Slot),l.map (·.kind)=l'.map (·.kind)->dH l=dH l'
 |[],[],_=>rfl
 |[],_::_,h=>by simp at h
 |_::_,[],h=>by simp at h
 |a::t,b::t',h=>by
  simp only[List.map_cons,List.cons.injEq]at h
  have:=kw t t' h.2
  unfold dH at this⊢
  simp only[bn,h.1,this]
theorem wK {l l':List Slot} (h:l.map (·.kind)=l'.map (·.kind)):aS l=aS l':=by
 have hl:l.length=l'.length:=by have:=congrArg List.length h;simpa using this
 have h1:dH (l.drop 1)=dH (l'.drop 1):=kw _ _ (by rw[List.map_drop,List.map_drop,h])
 unfold aS
 rw[h1,List.length_drop,List.length_drop,hl]
theorem wL (l:List Slot) (g:Nat) (a b:Slot) (h:a.kind=b.kind):(laid l g a).map (·.kind)=(laid l g b).map (·.kind):=by
 unfold laid
 split
 ·rw[List.map_append,List.map_append];simp[h]
 ·rw[List.map_set,List.map_set,h]
def DU (m:Img) (n:Nat):Prop:=
 (∃(j d:Nat) (s:Slot),int m.root (n/4)=(j:Nat)/\1<=j/\j<m.slots.length/\int m.refs j=1/\ag m.slots m.root n=(d:Nat)/\1<=d/\m.slots[d]? =some s/\int m.refs d=1)
 \/(∃(j:Nat) (s0:Slot),int m.root (n/4)=(j:Nat)/\1<=j/\j<m.slots.length/\int m.refs j=1/\m.slots[j]? =some s0/\s0.kind=2/\(ag m.slots m.root n<=0\/ ∃(d:Nat) (s:Slot),ag m.slots m.root n=(d:Nat)/\1<=d/\m.slots[d]? =some s/\int m.refs d≠1))
 \/(∃j:Nat,int m.root (n/4)=(j:Nat)/\(j=0\/(1<=j/\j<m.slots.length/\1<int m.refs j)))
theorem um (v:IV) (m:Img) (n:Nat) (pg:ByteArray) (w:World) (h:ImgR w w.heap.size v m) (he:aE m n=0) (hp:pg.size=4) (X:Img) (er:Int) (hX0:kP (cv m n pg)=X) (hE0:iM (cv m n pg)=er) (hcase:DU m n):
  Calls prog 94 #[ae m v,.int .i64 n,.string pg] w (aF w.heap.size X er w):=by
 obtain⟨hm,_,hn⟩:=dm he
 have hk:=iF hm hn
 have S:=ay (aq hm).1
 have hg16:=(gi hm).2.1
 have hmod:((n%4:Nat):Int)=(n:Int)%4:=by omega
 have hdiv:((n/4:Nat):Int)=(n:Int)/4:=by omega
 have htm:(n:Int).tmod 4=(n:Int)%4:=Int.tmod_eq_emod_of_nonneg (by omega)
 have htd:(n:Int).tdiv 4=(n:Int)/4:=Int.tdiv_eq_ediv_of_nonneg (by omega)
 have hrl:=dw hm
 have g4:((pg.size:Int) !=4)=false:=by simp[hp]
 have hpz:pg.size<=4611686018427387903:=by omega
 have K1':= λW (hb:Below w.heap.size w W)=>dq v m n W (h.next hb)
 rw[he]at K1'
 have KL':= λW (hb:Below w.heap.size w W)=>ju v m n W (h.next hb) (jW hm hn)
 have KO':= λW (hb:Below w.heap.size w W)=>fs v m W (h.next hb) S.cbd (by rw[hrl];exact S.cbd.slots)
 have KE':= λW (hb:Below w.heap.size w W)=>jK v m (n/4) W (h.next hb) hm hk
 obtain⟨W2,hW,f1,f2,_,f4,f5⟩:=eU w m.guest v
 obtain⟨rb,ro,t,hA,hrb,hti,hct⟩:=h.root.at1 (k:=n/4) (by have:=h.rlen;omega)
 have hit:=bG hti
 rw[hit]at KE'
 have hrn:=h.rlen
 have hrc:=h.rcap.1
 have hfn:=h.flen
 have hfc:=h.fcap.1
 have h1s:=(aJ S.slots).1
 obtain⟨fb,fo,_,hFA,hfb,_,_⟩:=h.refs.at1 (k:=0) (by omega)
 have REF:∀k,k<v.fn->w.cell? ⟨fb,fo+k,none⟩=some (.int .i64 (int m.refs k)):= λk hk=>by
  obtain⟨b',o',r,g1,_,g3,g5⟩:=h.refs.at1 (k:=k) hk
  rw[hFA]at g1
  injection g1 with g1
  injection g1 with g1 g6
  subst g1 g6
  rw[bG g3];exact g5
 obtain⟨rA,rn,rc,sA,sn,sc,fA,fn,fc,pA,pn,pc⟩:=v
 dsimp only[ae]at*
 subst hA hFA
 have K1:=zh (K1' _ f1)
 have KL:=zh KL'
 have KO:=zh KO'
 have KE:=zh KE'
 have HREF:=zh REF
 have F1:=zh f1
 have FZ:=zh f4
 have HX0:=zh hX0
 have HE0:=zh hE0
 have hct2:=(f1.cell (p:=⟨rb,ro+n/4,none⟩) hrb).trans hct
 have HS:=zh S
 have hk0:(0:Int)<=(n:Int)/4:=by omega
 have hk1:(n:Int)/4<(rn:Int):=by omega
 have hi0:(0:Int)<=(n:Int)%4:=by omega
 have hi1:(n:Int)%4<4:=by omega
 have hi2:n%4<4:=by omega
 have hxb:n<=4611686018427387903:=by omega
 obtain⟨x0,x1,x2,x3,x4⟩:=f2
 dsimp only at x0 x1 x2 x3 x4
 clear h K1' KL' KO' KE' hti hct REF hX0 hE0 S he
 go_enter func94,ntmps94
 go_wp2_with fail
 rw[hW.o]
 refine K1.o.mono ?_
 rintro e' w5 ⟨rfl,hb5⟩
 have B5:=aa F1.o hb5
 have hs5:=hb5.size
 have hl0:w.heap.size<W2.heap.size:=by omega
 have z0:=(hb5.cell (p:=⟨w.heap.size,0,none⟩) hl0).trans x0
 have z1:=(hb5.cell (p:=⟨w.heap.size,1,none⟩) hl0).trans x1
 have z2:=(hb5.cell (p:=⟨w.heap.size,2,none⟩) hl0).trans x2
 have z3:=(hb5.cell (p:=⟨w.heap.size,3,none⟩) hl0).trans x3
 have z4:=(hb5.cell (p:=⟨w.heap.size,4,none⟩) hl0).trans x4
 have c5:=(hb5.cell (p:=⟨rb,ro+n/4,none⟩) (show rb<W2.heap.size by omega)).trans hct2
 have hto:((n:Int)/4).toNat=n/4:=by omega
 have c6:w5.cell? ⟨rb,ro+((n:Int)/4).toNat,none⟩=some (.int .i64 t):=by rw[hto];exact c5
 have hl2:w.heap.size<w5.heap.size:=by omega
 have hl3:rb<w5.heap.size:=by omega
 have mvS:=zh (λ(W':World) (hb:Below w5.heap.size w5 W')=>(show(W'.cell? ⟨w.heap.size,0,none⟩=some (.int .i64 m.guest)/\W'.cell? ⟨w.heap.size,1,none⟩=some (.slice (some ⟨rb,ro,none⟩) rn rc)/\W'.cell? ⟨w.heap.size,2,none⟩=some (.slice sA sn sc)/\W'.cell? ⟨w.heap.size,3,none⟩=some (.slice (some ⟨fb,fo,none⟩) fn fc)/\W'.cell? ⟨w.heap.size,4,none⟩=some (.slice pA pn pc)/\W'.cell? ⟨rb,ro+((n:Int)/4).toNat,none⟩=some (.int .i64 t)/\W'.cell? ⟨rb,ro+n/4,none⟩=some (.int .i64 t))from
  ⟨(hb.cell (p:=⟨w.heap.size,0,none⟩) hl2).trans z0,(hb.cell (p:=⟨w.heap.size,1,none⟩) hl2).trans z1,(hb.cell (p:=⟨w.heap.size,2,none⟩) hl2).trans z2,(hb.cell (p:=⟨w.heap.size,3,none⟩) hl2).trans z3,(hb.cell (p:=⟨w.heap.size,4,none⟩) hl2).trans z4,(hb.cell (p:=⟨rb,ro+((n:Int)/4).toNat,none⟩) hl3).trans c6,(hb.cell (p:=⟨rb,ro+n/4,none⟩) hl3).trans c5⟩))
 have HB5:=zh hb5
 have hbd:Hid (Below w.heap.size w w5.drew):=zh B5.drew
 clear x0 x1 x2 x3 x4 hct2 hb5 B5 K1
 go_wp2_with fail
 go_region_held3 (λW'=>(W'.cell? ⟨w.heap.size,0,none⟩=some (.int .i64 m.guest)/\W'.cell? ⟨w.heap.size,1,none⟩=some (.slice (some ⟨rb,ro,none⟩) rn rc)/\W'.cell? ⟨w.heap.size,2,none⟩=some (.slice sA sn sc)/\W'.cell? ⟨w.heap.size,3,none⟩=some (.slice (some ⟨fb,fo,none⟩) fn fc)/\W'.cell? ⟨w.heap.size,4,none⟩=some (.slice pA pn pc)/\W'.cell? ⟨rb,ro+((n:Int)/4).toNat,none⟩=some (.int .i64 t)/\W'.cell? ⟨rb,ro+n/4,none⟩=some (.int .i64 t)))
  (first|exact⟨z0,z1,z2,z3,z4,c6,c5⟩|exact mvS.o _ (aa (Below.refl w5.heap.size w5).drew hb6))
  (first|(go_at_call 86;refine(KL.o _ hbd.o).mono ?_;rintro e' w6 ⟨rfl,hb6⟩))
 have hb56:=aa (Below.refl w5.heap.size w5).drew hb6
 obtain⟨x0,x1,x2,x3,x4,x5,x6⟩:=mvS.o _ hb56
 have T6:=aa (aa F1.o HB5.o) hb56
 have HB6:=zh (aa HB5.o hb56)
 have KO6:=zh (KO.o _ T6)
 have HT6:=zh T6
 have hs6:=hb56.size
 clear z0 z1 z2 z3 z4 c5 c6 hbd hb6 KO KL
 go_wp2_with fail
 refine KO6.o.mono ?_
 rintro e' w7 ⟨⟨rA7,rn7,rc7,sA7,sn7,sc7,fA7,fn7,fc7,pA7,pn7,pc7⟩,tg,q,p,rfl,hO7,hb7⟩
 have hb8:=ac w7 (.cells #[.int .i64 m.guest,.slice rA7 rn7 rc7,.slice sA7 sn7 sc7,.slice fA7 fn7 fc7,.slice pA7 pn7 pc7] 34)
 have T8:=aa hb7 hb8
 have X8:=Box.new w7 m.guest ⟨rA7,rn7,rc7,sA7,sn7,sc7,fA7,fn7,fc7,pA7,pn7,pc7⟩ 34
 have B8:=BoxB.new w7 #[.int .i64 m.guest,.slice rA7 rn7 rc7,.slice sA7 sn7 sc7,.slice fA7 fn7 fc7,.slice pA7 pn7 pc7]
 have O8:=hO7.next hb8
 have hs7:=hb7.size
 have U8:=aa HT6.o T8
 have Z8:=FZ.o.nextB (aa HB6.o T8) (by omega)
 have RF8:∀k,k<fn->_:= λk hk=>(U8.cell (p:=⟨fb,fo+k,none⟩) hfb).trans (HREF.o k hk)
 have y0:=(T8.cell (p:=⟨w.heap.size,0,none⟩) (show w.heap.size<w6.heap.size by omega)).trans x0
 have y1:=(T8.cell (p:=⟨w.heap.size,1,none⟩) (show w.heap.size<w6.heap.size by omega)).trans x1
 have y2:=(T8.cell (p:=⟨w.heap.size,2,none⟩) (show w.heap.size<w6.heap.size by omega)).trans x2
 have y3:=(T8.cell (p:=⟨w.heap.size,3,none⟩) (show w.heap.size<w6.heap.size by omega)).trans x3
 have y4:=(T8.cell (p:=⟨w.heap.size,4,none⟩) (show w.heap.size<w6.heap.size by omega)).trans x4
 have y5:=(T8.cell (p:=⟨rb,ro+n/4,none⟩) (show rb<w6.heap.size by omega)).trans x6
 have hl8:w7.heap.size<(w7.alloc (.cells #[.int .i64 m.guest,.slice rA7 rn7 rc7,.slice sA7 sn7 sc7,.slice fA7 fn7 fc7,.slice pA7 pn7 pc7] 34)).heap.size:=by simp
 dsimp only[ae]
 clear x0 x1 x2 x3 x4 x5 x6 hO7 hb7 hb8 KO6 mvS hb56 T6
 rcases hcase with⟨j,d,s,hj,hj1,hjl,hr1,hen,hd1,hds,hr2⟩|⟨j,s0,hj,hj1,hjl,hr1,hs0,hk2,hB⟩|⟨j,hj,hjc⟩
 ·have R:=sO (pg:=pg) (oC hj hj1 hr1) hen (by omega) hr2 hds
  have hds':=zh hds
  have HSX:=il hm hk hn hp R
  have hset:=mT hm hds HSX.1.1.sound
  have RX0:=HX0.o.symm
  have RE0:=HE0.o.symm
  rw[R]at RX0 RE0
  have RX1:=zh (RX0.trans hset)
  have RE1:=zh RE0
  clear RX0 RE0
  have hdl:=(zl hds)
  have cj:=RF8 j (by omega)
  have cd:=RF8 d (by omega)
  rw[hr1]at cj
  rw[hr2]at cd
  obtain⟨sb,q',hsA,hsl2,hsb,hsT,hcs,hfs,hD⟩:=O8.setDataO hds hpz
  dsimp only at hsA hsl2
  subst hsA
  have hg:=ai (w7.alloc (.cells #[.int .i64 m.guest,.slice rA7 rn7 rc7,.slice (some ⟨sb,0,none⟩) sn7 sc7,.slice fA7 fn7 fc7,.slice pA7 pn7 pc7] 34)) sb (d*3+1) (.string pg)
  have hn9:w7.heap.size≠sb:=B8.ty.ne hsT (by decide)
  have hnZ:w.heap.size+1≠sb:=Z8.box.1.ty.ne hsT (by decide)
  have X9:=X8.kept hg (λe=>hn9 (by injection e))
  have Z9:ZB _ (w.heap.size+1):=⟨(hg.block _ Z8.box.1.ty.lt (λe=>hnZ (by injection e))).trans Z8.heap⟩
  obtain⟨⟨k0,k1,k2,k3,k4⟩,hO2,hg2⟩:=kv Z9 hD
  have LB:=(U8.setCell (p:=⟨sb,d*3+1,none⟩) (show w.heap.size<=sb by omega) (.string pg)).grown hg2 (by have:=(U8.setCell (p:=⟨sb,d*3+1,none⟩) (show w.heap.size<=sb by omega) (.string pg)).size;omega) (λj e=>by injection e with e;omega)
  obtain⟨u0,u1,u2,u3,u4⟩:=Z9.cells
  obtain⟨q0,q1,q2,q3,q4⟩:=Z9.froz
  obtain⟨v0,v1,v2,v3,v4⟩:=X8
  obtain⟨x0,x1,x2,x3,x4⟩:=X9
  dsimp only at x0 x1 x2 x3 x4 v0 v1 v2 v3 v4 k0 k1 k2 k3 k4
  have HK:=zf k0 k1 k2 k3 k4
  have HO:=zh hO2
  have HLB:=zh LB
  have e0:(0:Int)<=(j:Int):=by omega
  have e1:(j:Int)<(fn:Int):=by omega
  have e2:(0:Int)<=(d:Int):=by omega
  have e3:(d:Int)<(fn:Int):=by omega
  have e4:(d:Int)<(sn7:Int):=by omega
  have e5:decide (0<d)=true:=decide_eq_true (by omega)
  have e6:(0:Int)<(d:Int):=by omega
  rw[hj]at hit
  subst hit
  clear B8 O8 U8 T8 Z8 RF8 hg hsT hD hO2 hg2 LB k0 k1 k2 k3 k4 Z9 hset HSX R hm hds HREF KE HS
  go_wp2_with fail
  obtain⟨k0,k1,k2,k3,k4⟩:=HK.o
  refine bodyPost_ret (v:=.tuple #[ae {m with slots:=m.slots.set d {s with data:=pg}} ⟨rA7,rn7,rc7,some ⟨sb,0,none⟩,sn7,sc7,fA7,fn7,fc7,pA7,pn7,pc7⟩,.int .i64 0]) ?_ rfl ⟨_,by rw[RX1.o,RE1.o];rfl,by rw[RX1.o];exact .inr ⟨w6.heap.size,_,_,_,by omega,HO.o⟩,HLB.o⟩
  simp[results,results94,go_sem,k0,k1,k2,k3,k4,ae]
 ·have hnin:sP m n:=by
   rcases hB with he0|⟨d,s,hen,hd1,hds,hr2⟩
   ·unfold sP;omega
   ·unfold sP;rw[hen,Int.toNat_natCast];exactλh=>hr2 h.2
  by_cases hg:aS m.slots=0
  ·rcases hB with he0|⟨d,s,hen,hd1,hds,hr2⟩
   case' inl=>have e7:decide ((0:Int)<ag m.slots m.root n)=false:=by simpa using he0
   case' inr=>
    have hdl:=(zl hds)
    have cd:=RF8 d (by omega)
    have hrr:(int m.refs d==1)=false:=by simpa using hr2
    generalize int m.refs d=rd at cd hrr
    have e2:(0:Int)<=(d:Int):=by omega
    have e3:(d:Int)<(fn:Int):=by omega
    have e5:decide (0<d)=true:=decide_eq_true (by omega)
    have e6:(0:Int)<(d:Int):=by omega
   all_goals
    have R:=ms (pg:=pg) (oC hj hj1 hr1) hnin
    rw[if_pos hg]at R
    have RX0:=HX0.o.symm
    have RE0:=HE0.o.symm
    rw[R]at RX0 RE0
    have RX1:=zh RX0
    have RE1:=zh RE0
    clear RX0 RE0
    have cj:=RF8 j (by omega)
    rw[hr1]at cj
    have KG':=go sA7 sn7 sc7 m.slots _ O8.imgR.slots (by have:=O8.imgR.slen;dsimp only at this;omega) O8.imgR.scap.1
    rw[hg]at KG'
    have KG:=zh KG'
    have O:=ix Z8 (X:=aj) (v:=noV) (B:=w.heap.size) (.inl ⟨rfl,rfl⟩) U8 (Nat.le_refl _) (by omega)
    dsimp only[aj,noV]at O
    obtain⟨⟨k0,k1,k2,k3,k4⟩,hF,hB⟩:=O
    obtain⟨u0,u1,u2,u3,u4⟩:=Z8.cells
    obtain⟨q0,q1,q2,q3,q4⟩:=Z8.froz
    obtain⟨v0,v1,v2,v3,v4⟩:=X8
    dsimp only at v0 v1 v2 v3 v4
    have HK:=zf k0 k1 k2 k3 k4
    have HF:=zh hF
    have HLB:=zh hB
    have e0:(0:Int)<=(j:Int):=by omega
    have e1:(j:Int)<(fn:Int):=by omega
    have e8:((j:Int)==0)=false:=by simp;omega
    rw[hj]at hit
    subst hit
    clear B8 O8 U8 T8 Z8 RF8 KG' hF hB k0 k1 k2 k3 k4 R hm HREF KE HS
    go_wp2_with fail
    generalize (w7.alloc (.cells #[.int .i64 m.guest,.slice rA7 rn7 rc7,.slice sA7 sn7 sc7,.slice fA7 fn7 fc7,.slice pA7 pn7 pc7] 34))=w8 at*
    refine KG.o.mono ?_
    rintro e' w9 ⟨rfl,rfl⟩
    go_wp2_with fail
    obtain⟨k0,k1,k2,k3,k4⟩:=HK.o
    refine bodyPost_ret (v:=.tuple #[ae aj noV,.int .i64 7]) ?_ rfl ⟨noV,by rw[RX1.o,RE1.o];rfl,by rw[RX1.o];exact HF.o,HLB.o⟩
    simp[results,results94,go_sem,ae,aj,noV,k0,k1,k2,k3,k4]
  ·rcases hB with he0|⟨d,s,hen,hd1,hds,hr2⟩
   case' inl=>have e7:decide ((0:Int)<ag m.slots m.root n)=false:=by simpa using he0
   case' inr=>
    have hdl:=(zl hds)
    have cd:=RF8 d (by omega)
    have hrr:(int m.refs d==1)=false:=by simpa using hr2
    generalize int m.refs d=rd at cd hrr
    have e2:(0:Int)<=(d:Int):=by omega
    have e3:(d:Int)<(fn:Int):=by omega
    have e5:decide (0<d)=true:=decide_eq_true (by omega)
    have e6:(0:Int)<(d:Int):=by omega
   all_goals
    have R:=ms (pg:=pg) (oC hj hj1 hr1) hnin
    obtain⟨g1,g2,hf,_⟩:=ec HS.o.slots hg
    have h40:=(aJ HS.o.slots).2
    rw[if_neg hg,hj,Int.toNat_natCast,fJ hj hj1 hs0]at R
    generalize hgn:aS m.slots=g at*
    have hjg:j≠g:=by rintro rfl;have:=hf _ hs0;omega
    have hs1:(laid m.slots g (bF pg))[j]? =some s0:=(eL hjl hjg).trans hs0
    rw[List.getD_eq_getElem?_getD,hs1,Option.getD_some]at R
    have HRX:=zh (il hm hk hn hp R).1.1.sound
    have RX0:=HX0.o.symm
    have RE0:=HE0.o.symm
    rw[R]at RX0 RE0
    have RX1:=zh RX0
    have RE1:=zh RE0
    clear RX0 RE0
    have HT:=zh hs1
    have H4:=zh (gz HS.o.slots hs0 hk2)
    have cj:=RF8 j (by omega)
    rw[hr1]at cj
    have KG':=go sA7 sn7 sc7 m.slots _ O8.imgR.slots (by have:=O8.imgR.slen;dsimp only at this;omega) O8.imgR.scap.1
    rw[hgn]at KG'
    have KG:=zh KG'
    have HLAY':Calls prog 151 #[ae m ⟨rA7,rn7,rc7,sA7,sn7,sc7,fA7,fn7,fc7,pA7,pn7,pc7⟩,.int .i64 (g:Nat),.agg #[.int .i64 1,.string pg,.slice none 0 0]] _ (rz w6.heap.size tg ⟨rA7,rn7,rc7,sA7,sn7,sc7,fA7,fn7,fc7,pA7,pn7,pc7⟩ p {m with slots:=laid m.slots g (bF pg)} _):=m3 w6.heap.size tg _ q p m g (bF pg) none 0 0 _ O8 (by omega) g2 h40 g1 hpz TabO.nil
    dsimp only[ae]at HLAY'
    have HLAY:=zh HLAY'
    have HX8:=zh X8
    have HB8:=zh B8
    have HZ8:=zh Z8
    have HU8:=zh U8
    obtain⟨v0,v1,v2,v3,v4⟩:=X8
    dsimp only at v0 v1 v2 v3 v4
    have e0:(0:Int)<=(j:Int):=by omega
    have e1:(j:Int)<(fn:Int):=by omega
    have e8:((j:Int)==0)=false:=by simp;omega
    have e9:((g:Int)==0)=false:=by simp;omega
    rw[hj]at hit
    subst hit
    clear B8 O8 U8 T8 Z8 RF8 KG' HLAY' R hm HREF KE HS hs1 hf hgn hg hk2 hs0
    go_wp2_with fail
    generalize (w7.alloc (.cells #[.int .i64 m.guest,.slice rA7 rn7 rc7,.slice sA7 sn7 sc7,.slice fA7 fn7 fc7,.slice pA7 pn7 pc7] 34))=w8 at*
    refine KG.o.mono ?_
    rintro e' w9 ⟨rfl,rfl⟩
    go_wp2_with fail
    refine HLAY.o.mono ?_
    rintro e' w9 ⟨⟨trA,trn,trc,tsA,tsn,tsc,tfA,tfn,tfc,tpA,tpn,tpc⟩,q9,rfl,hO9,_,_,_,_,hb9,hKI⟩
    obtain⟨X9,B9⟩:=hKI.box HB8.o HX8.o
    have Z9:=hKI.zb HZ8.o
    have h5:=dr B9 ⟨_,_,X9⟩ m.guest ⟨trA,trn,trc,tsA,tsn,tsc,tfA,tfn,tfc,tpA,tpn,tpc⟩
    dsimp only at h5
    have O10:=hO9.kept h5.2.2 B9.ty (by decide) (by decide) (by decide)
    obtain⟨sb,g5,n5,c5,q11,hsA,hTl,hn5,hhd,hg5,hgT,hgf,⟨u5,hcy⟩,O11⟩:=O10.setTabO HT.o (i:=n%4) (by rw[H4.o];omega) (g:Nat)
    rw[H4.o]at hn5
    dsimp only at hsA hTl O11
    subst hsA hn5
    have s9:=hb9.size
    have s10:=h5.2.2.size
    have hg:=ai (((((w9.setCell ⟨w7.heap.size,0,none⟩ (.int .i64 m.guest)).setCell ⟨w7.heap.size,1,none⟩ (.slice trA trn trc)).setCell ⟨w7.heap.size,2,none⟩ (.slice (some ⟨sb,0,none⟩) tsn tsc)).setCell ⟨w7.heap.size,3,none⟩ (.slice tfA tfn tfc)).setCell ⟨w7.heap.size,4,none⟩ (.slice tpA tpn tpc)) g5 (n%4) (.int .i64 (g:Nat))
    have hn9:w7.heap.size≠g5:=h5.2.1.ty.ne hgT (by decide)
    have Z10:ZB _ (w.heap.size+1):=⟨(h5.2.2.block _ Z9.box.1.ty.lt (λe=>by injection e with e;omega)).trans Z9.heap⟩
    have hnZ:w.heap.size+1≠g5:=Z10.box.1.ty.ne hgT (by decide)
    have X11:=h5.1.kept hg (λe=>hn9 (by injection e))
    have Z11:ZB _ (w.heap.size+1):=⟨(hg.block _ Z10.box.1.ty.lt (λe=>hnZ (by injection e))).trans Z10.heap⟩
    have HSND:=HRX.o
    have KC:=zh (cU w6.heap.size tg _ q11 p _ _ O11 (by have:=hg.size;omega) HSND.cbd)
    have LB:=((HU8.o.trans (hb9.mono (by omega))).grown h5.2.2 (by omega) (λj e=>by injection e with e;omega)).setCell (p:=⟨g5,n%4,none⟩) (show w.heap.size<=g5 by omega) (.int .i64 (g:Nat))
    obtain⟨v0,v1,v2,v3,v4⟩:=X9
    obtain⟨a0,a1,a2,a3,a4⟩:=h5.1
    obtain⟨x0,x1,x2,x3,x4⟩:=X11
    have y10:=B9.fz 0
    have y11:=B9.fz 1
    have y12:=B9.fz 2
    have y13:=B9.fz 3
    have y14:=B9.fz 4
    have HZ11:=zh Z11
    have HLB:=zh LB
    have et0:(0:Int)<=(j:Int):=by omega
    have et1:(j:Int)<(tsn:Int):=by omega
    dsimp only[ae]at v0 v1 v2 v3 v4 a0 a1 a2 a3 a4 x0 x1 x2 x3 x4 KC⊢
    clear Z9 Z10 Z11 h5 hb9 hKI B9 LB O10 O11 hO9 hg hgT HLAY HX8 HB8 HZ8 HU8 HSND
    repeat (first|go_skip|go_guarded|go_step|go_upon)
    generalize ((((((w9.setCell ⟨w7.heap.size,0,none⟩ (.int .i64 m.guest)).setCell ⟨w7.heap.size,1,none⟩ (.slice trA trn trc)).setCell ⟨w7.heap.size,2,none⟩ (.slice (some ⟨sb,0,none⟩) tsn tsc)).setCell ⟨w7.heap.size,3,none⟩ (.slice tfA tfn tfc)).setCell ⟨w7.heap.size,4,none⟩ (.slice tpA tpn tpc)).setCell ⟨g5,n%4,none⟩ (.int .i64 (g:Nat)))=w11 at*
    refine KC.o.mono ?_
    rintro e' w12 ⟨⟨zrA,zrn,zrc,zsA,zsn,zsc,zfA,zfn,zfc,zpA,zpn,zpc⟩,tg12,q12,p12,rfl,hO12,hb12⟩
    have Z12:=HZ11.o.nextB hb12 (by omega)
    have hsX:ap {m with slots:=(laid m.slots g (bF pg)).set j {s0 with table:=s0.table.set (n%4) (g:Nat)}}=X:=RX1.o.symm
    rw[hsX]at hO12⊢
    obtain⟨⟨k0,k1,k2,k3,k4⟩,hO2,hg2⟩:=kv Z12 hO12
    have s12:=hb12.size
    have s13:=HLB.o.size
    have LB2:=(HLB.o.trans (hb12.mono (by omega))).grown hg2 (by omega) (λj e=>by injection e with e;omega)
    obtain⟨u0,u1,u2,u3,u4⟩:=Z12.cells
    dsimp only at k1 k2 k3 k4
    obtain⟨q0,q1,q2,q3,q4⟩:=Z12.froz
    have HK:=zf k0 k1 k2 k3 k4
    have HO:=zh hO2
    have HLB2:=zh LB2
    dsimp only[ae]
    clear Z12 hO12 hb12 hO2 hg2 LB2 k0 k1 k2 k3 k4 HZ11 KC x0 x1 x2 x3 x4 a0 a1 a2 a3 a4 v0 v1 v2 v3 v4
    go_wp2_with fail
    obtain⟨k0,k1,k2,k3,k4⟩:=HK.o
    refine bodyPost_ret (v:=.tuple #[ae X ⟨zrA,zrn,zrc,zsA,zsn,zsc,zfA,zfn,zfc,zpA,zpn,zpc⟩,.int .i64 0]) ?_ rfl ⟨_,by rw[RE1.o];rfl,.inr ⟨w6.heap.size,_,_,_,by omega,HO.o⟩,HLB2.o⟩
    simp[results,results94,go_sem,k0,k1,k2,k3,k4,ae]
 ·have hown:gu m (n/4)=false:=by
   rcases hjc with rfl|⟨_,_,_⟩
   ·exact lJ hj
   ·exact lK hj (by omega)
  by_cases hg:aS m.slots=0
  ·rw[hj]at hit
   subst hit
   rcases hjc with hj0|⟨hj1,hjl,hr1⟩
   case' inl=>
    have e8:((j:Int)==0)=true:=by simp[hj0]
    have e7:decide ((0:Int)<ag m.slots m.root n)=false:=by
     have e:ag m.slots m.root n=0:=by unfold ag;rw[hj,hj0];rfl
     rw[e];rfl
    clear hj0
   case' inr=>
    have cj:=RF8 j (by omega)
    have hrr:(int m.refs j==1)=false:=by simp;omega
    have hrg:decide (1<int m.refs j)=true:=decide_eq_true hr1
    generalize int m.refs j=rj at cj hrr hrg
    have e0:(0:Int)<=(j:Int):=by omega
    have e1:(j:Int)<(fn:Int):=by omega
    have e8:((j:Int)==0)=false:=by simp;omega
    cases e7:decide ((0:Int)<ag m.slots m.root n)
   all_goals
    have R:=mt (pg:=pg) (hown)
    rw[if_pos hg]at R
    have RX0:=HX0.o.symm
    have RE0:=HE0.o.symm
    rw[R]at RX0 RE0
    have RX1:=zh RX0
    have RE1:=zh RE0
    clear RX0 RE0
    have KG':=go sA7 sn7 sc7 m.slots _ O8.imgR.slots (by have:=O8.imgR.slen;dsimp only at this;omega) O8.imgR.scap.1
    rw[hg]at KG'
    have KG:=zh KG'
    have O:=ix Z8 (X:=aj) (v:=noV) (B:=w.heap.size) (.inl ⟨rfl,rfl⟩) U8 (Nat.le_refl _) (by omega)
    dsimp only[aj,noV]at O
    obtain⟨⟨k0,k1,k2,k3,k4⟩,hF,hB⟩:=O
    obtain⟨u0,u1,u2,u3,u4⟩:=Z8.cells
    obtain⟨q0,q1,q2,q3,q4⟩:=Z8.froz
    obtain⟨v0,v1,v2,v3,v4⟩:=X8
    dsimp only at v0 v1 v2 v3 v4
    have HK:=zf k0 k1 k2 k3 k4
    have HF:=zh hF
    have HLB:=zh hB
    clear B8 O8 U8 T8 Z8 RF8 KG' hF hB k0 k1 k2 k3 k4 R hm HREF KE HS
    go_wp2_with fail
    generalize (w7.alloc (.cells #[.int .i64 m.guest,.slice rA7 rn7 rc7,.slice sA7 sn7 sc7,.slice fA7 fn7 fc7,.slice pA7 pn7 pc7] 34))=w8 at*
    refine KG.o.mono ?_
    rintro e' w9 ⟨rfl,rfl⟩
    go_wp2_with fail
    obtain⟨k0,k1,k2,k3,k4⟩:=HK.o
    refine bodyPost_ret (v:=.tuple #[ae aj noV,.int .i64 7]) ?_ rfl ⟨noV,by rw[RX1.o,RE1.o];rfl,by rw[RX1.o];exact HF.o,HLB.o⟩
    simp[results,results94,go_sem,ae,aj,noV,k0,k1,k2,k3,k4]
  ·rw[hj]at hit
   subst hit
   rcases hjc with hj0|⟨hj1,hjl,hr1⟩
   case' inl=>
    have e8:((j:Int)==0)=true:=by simp[hj0]
    have e7:decide ((0:Int)<ag m.slots m.root n)=false:=by
     have e:ag m.slots m.root n=0:=by unfold ag;rw[hj,hj0];rfl
     rw[e];rfl
    clear hj0
   case' inr=>
    have cj:=RF8 j (by omega)
    have hrr:(int m.refs j==1)=false:=by simp;omega
    have hrg:decide (1<int m.refs j)=true:=decide_eq_true hr1
    generalize int m.refs j=rj at cj hrr hrg
    have e0:(0:Int)<=(j:Int):=by omega
    have e1:(j:Int)<(fn:Int):=by omega
    have e8:((j:Int)==0)=false:=by simp;omega
    cases e7:decide ((0:Int)<ag m.slots m.root n)
   all_goals
    obtain⟨g1,g2,hf,_⟩:=ec HS.o.slots hg
    have h40:=(aJ HS.o.slots).2
    obtain⟨f41,f42,f43⟩:=dC hm hk
    have KG':=go sA7 sn7 sc7 m.slots _ O8.imgR.slots (by have:=O8.imgR.slen;dsimp only at this;omega) O8.imgR.scap.1
    have R:=mt (pg:=pg) (hown)
    rw[if_neg hg]at R
    have HL1:=gm HS.o.slots hg (eh (t:=[-1,0,0,0]) rfl rfl)
    have HWE:=zh (λx=>il (x:=x) hm hk hn hp)
    generalize hgn:aS m.slots=gt at*
    have HR:=zh R
    have H41:=zh f41
    have HL1':=zh HL1
    have KG:=zh KG'
    have hto:((n:Int)/4).toNat=n/4:=by omega
    have y6:(w7.alloc (.cells #[.int .i64 m.guest,.slice rA7 rn7 rc7,.slice sA7 sn7 sc7,.slice fA7 fn7 fc7,.slice pA7 pn7 pc7] 34)).cell? ⟨rb,ro+((n:Int)/4).toNat,none⟩=some (.int .i64 (j:Nat)):=by rw[hto];exact y5
    have HX8:=zh X8
    have HB8:=zh B8
    have HZ8:=zh Z8
    have HU8:=zh U8
    have HO8:=zh O8
    have e9:((gt:Int)==0)=false:=by simp;omega
    have hrn7:=zh (show m.root.length=rn7 from(by have:=O8.imgR.rlen;dsimp only at this;omega))
    obtain⟨v0,v1,v2,v3,v4⟩:=X8
    dsimp only at v0 v1 v2 v3 v4
    have hs8:w7.heap.size<(w7.alloc (.cells #[.int .i64 m.guest,.slice rA7 rn7 rc7,.slice sA7 sn7 sc7,.slice fA7 fn7 fc7,.slice pA7 pn7 pc7] 34)).heap.size:=hl8
    clear B8 O8 U8 T8 Z8 RF8 KG' hm HREF hf hgn R f41 f42 f43 HL1
    go_wp2_with fail
    generalize (w7.alloc (.cells #[.int .i64 m.guest,.slice rA7 rn7 rc7,.slice sA7 sn7 sc7,.slice fA7 fn7 fc7,.slice pA7 pn7 pc7] 34))=w8 at*
    refine KG.o.mono ?_
    rintro e' w9 ⟨rfl,rfl⟩
    go_wp2_with fail
    have hbd:Hid (Below w.heap.size w w8.drew):=zh HU8.o.drew
    have hlw:w.heap.size<w8.heap.size:=by omega
    have hlr:rb<w8.heap.size:=by omega
    have mvT:=zh (λ(W':World) (hb:Below w8.drew.heap.size w8.drew W')=>(show(W'.cell? ⟨w.heap.size,0,none⟩=some (.int .i64 m.guest)/\W'.cell? ⟨w.heap.size,1,none⟩=some (.slice (some ⟨rb,ro,none⟩) rn rc)/\W'.cell? ⟨w.heap.size,2,none⟩=some (.slice sA sn sc)/\W'.cell? ⟨w.heap.size,3,none⟩=some (.slice (some ⟨fb,fo,none⟩) fn fc)/\W'.cell? ⟨w.heap.size,4,none⟩=some (.slice pA pn pc)/\W'.cell? ⟨rb,ro+((n:Int)/4).toNat,none⟩=some (.int .i64 (j:Nat))/\W'.cell? ⟨rb,ro+n/4,none⟩=some (.int .i64 (j:Nat))/\W'.cell? ⟨w7.heap.size,0,none⟩=some (.int .i64 m.guest)/\W'.cell? ⟨w7.heap.size,1,none⟩=some (.slice rA7 rn7 rc7)/\W'.cell? ⟨w7.heap.size,2,none⟩=some (.slice sA7 sn7 sc7)/\W'.cell? ⟨w7.heap.size,3,none⟩=some (.slice fA7 fn7 fc7)/\W'.cell? ⟨w7.heap.size,4,none⟩=some (.slice pA7 pn7 pc7))from
     ⟨(hb.cell (p:=⟨w.heap.size,0,none⟩) hlw).trans y0,(hb.cell (p:=⟨w.heap.size,1,none⟩) hlw).trans y1,(hb.cell (p:=⟨w.heap.size,2,none⟩) hlw).trans y2,(hb.cell (p:=⟨w.heap.size,3,none⟩) hlw).trans y3,(hb.cell (p:=⟨w.heap.size,4,none⟩) hlw).trans y4,(hb.cell (p:=⟨rb,ro+((n:Int)/4).toNat,none⟩) hlr).trans y6,(hb.cell (p:=⟨rb,ro+n/4,none⟩) hlr).trans y5,
      (hb.cell (p:=⟨w7.heap.size,0,none⟩) hs8).trans v0,(hb.cell (p:=⟨w7.heap.size,1,none⟩) hs8).trans v1,(hb.cell (p:=⟨w7.heap.size,2,none⟩) hs8).trans v2,(hb.cell (p:=⟨w7.heap.size,3,none⟩) hs8).trans v3,(hb.cell (p:=⟨w7.heap.size,4,none⟩) hs8).trans v4⟩))
    refine eS (λW'=>(W'.cell? ⟨w.heap.size,0,none⟩=some (.int .i64 m.guest)/\W'.cell? ⟨w.heap.size,1,none⟩=some (.slice (some ⟨rb,ro,none⟩) rn rc)/\W'.cell? ⟨w.heap.size,2,none⟩=some (.slice sA sn sc)/\W'.cell? ⟨w.heap.size,3,none⟩=some (.slice (some ⟨fb,fo,none⟩) fn fc)/\W'.cell? ⟨w.heap.size,4,none⟩=some (.slice pA pn pc)/\W'.cell? ⟨rb,ro+((n:Int)/4).toNat,none⟩=some (.int .i64 (j:Nat))/\W'.cell? ⟨rb,ro+n/4,none⟩=some (.int .i64 (j:Nat))/\W'.cell? ⟨w7.heap.size,0,none⟩=some (.int .i64 m.guest)/\W'.cell? ⟨w7.heap.size,1,none⟩=some (.slice rA7 rn7 rc7)/\W'.cell? ⟨w7.heap.size,2,none⟩=some (.slice sA7 sn7 sc7)/\W'.cell? ⟨w7.heap.size,3,none⟩=some (.slice fA7 fn7 fc7)/\W'.cell? ⟨w7.heap.size,4,none⟩=some (.slice pA7 pn7 pc7))) 10 ?_
    have hSS:=mvT.o w8.drew (Below.refl _ _)
    refine zgo 0 ?_
    refine zgo 1 ?_
    refine zgo 2 ?_
    refine zgo 3 ?_
    refine zgo 4 ?_
    refine zgo 5 ?_
    refine zgo 6 ?_
    refine zgo 7 ?_
    clear hSS
    refine aP 8 λK' hK=>?_
    go_simp
    refine(KE.o _ hbd.o).mono ?_
    rintro e' w10 ⟨A10,c10,rfl,ho10,hb10,hc10,hm10⟩
    refine hK.o _ _ (λ_=>mvT.o _ hb10) ?_
    clear hK
    refine aP 9 λK' hK=>?_
    go_simp
    refine hK.o _ _ (λ_=>mvT.o _ hb10) ?_
    clear hK
    refine aP 10 λK' hK=>?_
    obtain⟨tg10,O10,R10⟩:=HO8.o.fresh (by omega) (Below.refl w8.heap.size w8).drew hb10 ho10 (by omega) hc10 hm10
    have hs10:=hb10.size
    have hsd:w8.drew.heap.size=w8.heap.size:=rfl
    have HL:Calls prog 151 #[ae m ⟨rA7,rn7,rc7,sA7,sn7,sc7,fA7,fn7,fc7,pA7,pn7,pc7⟩,.int .i64 (gt:Nat),.agg #[.int .i64 2,.string {data:=#[]},.slice A10 4 c10]] _ (rz w6.heap.size (nV tg10 (2*gt+4)) ⟨rA7,rn7,rc7,sA7,sn7,sc7,fA7,fn7,fc7,pA7,pn7,pc7⟩ p {m with slots:=laid m.slots gt (aC (af m (n/4)))} _):=m3 w6.heap.size (nV tg10 (2*gt+4)) _ q p m gt (aC (af m (n/4))) A10 4 c10 _ (O10.marked _) (by omega) g2 h40 g1 (show(0:Nat)<=_ by omega) R10.given
    dsimp only[ae]at HL
    go_simp
    refine HL.mono ?_
    rintro e' w11 ⟨⟨trA,trn,trc,tsA,tsn,tsc,tfA,tfn,tfc,tpA,tpn,tpc⟩,q11,rfl,hO11,hv1,hv2,hv3,hTT,hb11,hKI⟩
    refine hK.nx ?_
    clear hK HL R10 O10
    dsimp only at hv1 hv2 hv3
    subst hv1 hv2 hv3
    generalize nV tg10 (2*gt+4)=tg' at*
    have hd10:=aa (Below.refl w8.heap.size w8).drew hb10
    obtain⟨X11,B11⟩:=hKI.box (HB8.o.next hd10) (HX8.o.keep hd10 hs8)
    have Z11:=hKI.zb (HZ8.o.nextB hd10 (by omega))
    have h5:=dr B11 ⟨_,_,X11⟩ m.guest ⟨trA,trn,trc,tsA,tsn,tsc,tfA,tfn,tfc,tpA,tpn,tpc⟩
    dsimp only at h5
    have O12:=hO11.kept h5.2.2 B11.ty (by decide) (by decide) (by decide)
    have s11:=hb11.size
    have s12:=h5.2.2.size
    have LB12:=((HU8.o.trans ((hd10.mono (by omega)).trans (hb11.mono (by omega)))).grown h5.2.2 (by omega) (λj e=>by injection e with e;omega))
    have Z12:ZB _ (w.heap.size+1):=⟨(h5.2.2.block _ Z11.box.1.ty.lt (λe=>by injection e with e;omega)).trans Z11.heap⟩
    have B12:=h5.2.1
    have X12:=h5.1
    obtain⟨r0,r1,r2,r3,r4⟩:=X11
    have q11_0:=B11.fz 0
    have q11_1:=B11.fz 1
    have q11_2:=B11.fz 2
    have q11_3:=B11.fz 3
    have q11_4:=B11.fz 4
    dsimp only at r0 r1 r2 r3 r4
    refine aP 11 λK' hK=>?_
    go_simp
    refine hK.nx ?_
    clear hK
    refine cT ?_
    have hrl3:=zh (show m.root.length=trn from(by have:=O12.imgR.rlen;dsimp only at this;omega))
    have HB12:=zh B12
    have HO12:=zh O12
    have HX12:=zh X12
    have HZ12:=zh Z12
    have HLB12:=zh LB12
    have hs12':w6.heap.size<=(((((w11.setCell ⟨w7.heap.size,0,none⟩ (.int .i64 m.guest)).setCell ⟨w7.heap.size,1,none⟩ (.slice trA trn trc)).setCell ⟨w7.heap.size,2,none⟩ (.slice tsA tsn tsc)).setCell ⟨w7.heap.size,3,none⟩ (.slice tfA tfn tfc)).setCell ⟨w7.heap.size,4,none⟩ (.slice tpA tpn tpc)).heap.size:=by omega
    clear B12 O12 X12 Z12 LB12 h5 hO11 B11 Z11 hb11 hb10 ho10 hKI hTT mvT hbd r0 r1 r2 r3 r4 q11_0 q11_1 q11_2 q11_3 q11_4 y0 y1 y2 y3 y4 y5 y6 v0 v1 v2 v3 v4 HO8 HB8 HX8 HZ8 HU8 KG hd10 hs10 s11 s12
    generalize (((((w11.setCell ⟨w7.heap.size,0,none⟩ (.int .i64 m.guest)).setCell ⟨w7.heap.size,1,none⟩ (.slice trA trn trc)).setCell ⟨w7.heap.size,2,none⟩ (.slice tsA tsn tsc)).setCell ⟨w7.heap.size,3,none⟩ (.slice tfA tfn tfc)).setCell ⟨w7.heap.size,4,none⟩ (.slice tpA tpn tpc))=w12 at*
    obtain⟨rg,hrA,hrg,hrT,hrf,⟨yr,hyr⟩,O13⟩:=HO12.o.setRootO (k:=n/4) (by show n/4<trn;have:=hrl3.o;omega) (gt:Nat)
    dsimp only at hrA O13
    subst hrA
    have hgR:=ai w12 rg (n/4) (.int .i64 (gt:Nat))
    have hnr:w7.heap.size≠rg:=HB12.o.ty.ne hrT (by decide)
    have hnz:w.heap.size+1≠rg:=HZ12.o.box.1.ty.ne hrT (by decide)
    have B13:=HB12.o.kept hgR (λe=>hnr (by injection e))
    have X13:=HX12.o.kept hgR (λe=>hnr (by injection e))
    have Z13:ZB _ (w.heap.size+1):=⟨(hgR.block _ HZ12.o.box.1.ty.lt (λe=>hnz (by injection e))).trans HZ12.o.heap⟩
    have U13:=HLB12.o.setCell (p:=⟨rg,n/4,none⟩) (show w.heap.size<=rg by omega) (.int .i64 (gt:Nat))
    have hs13:w6.heap.size<=(w12.setCell ⟨rg,n/4,none⟩ (.int .i64 (gt:Nat))).heap.size:=by have:=hgR.size;omega
    obtain⟨b0,b1,b2,b3,b4⟩:=HX12.o
    dsimp only at b0 b1 b2 b3 b4
    have hyr2:w12.cell? ⟨rg,((n:Int)/4).toNat,none⟩=some (.int .i64 yr):=by rw[hto];exact hyr
    have hrf2:w12.frozen? ⟨rg,((n:Int)/4).toNat,none⟩=false:=by rw[hto];exact hrf
    have hk1':(n:Int)/4<(trn:Int):=by have:=hrl3.o;omega
    have hlL:=zG (l:=m.slots) (g:=gt) (aC [-1,0,0,0]) (aC (af m (n/4)))
    have hLL:=(aJ HL1'.o).2
    have KG2:=go tsA tsn tsc (laid m.slots gt (aC (af m (n/4)))) _ O13.imgR.slots (by have:=O13.imgR.slen;have:=(List.getElem?_eq_some_iff.1 (du (s:=aC (af m (n/4))) g2)).1;dsimp only at*;omega) O13.imgR.scap.1
    have R:=HR.o
    have e1:aS (laid m.slots gt (aC [-1,0,0,0]))=aS (laid m.slots gt (aC (af m (n/4)))):=wK (wL _ _ _ _ rfl)
    have HGI:=zh (ec HL1'.o)
    rw[e1]at R
    by_cases hg2:aS (laid m.slots gt (aC (af m (n/4))))=0
    ·rw[if_pos hg2]at R
     rw[hg2]at KG2
     have KG:=zh KG2
     have RX0:=HX0.o.symm
     have RE0:=HE0.o.symm
     rw[R]at RX0 RE0
     have RX1:=zh RX0
     have RE1:=zh RE0
     clear RX0 RE0
     have O:=ix Z13 (X:=aj) (v:=noV) (B:=w.heap.size) (.inl ⟨rfl,rfl⟩) U13 (Nat.le_refl _) (by omega)
     dsimp only[aj,noV]at O
     obtain⟨⟨k0,k1,k2,k3,k4⟩,hF,hB⟩:=O
     obtain⟨u0,u1,u2,u3,u4⟩:=Z13.cells
     obtain⟨q0,q1,q2,q3,q4⟩:=Z13.froz
     obtain⟨v0,v1,v2,v3,v4⟩:=X13
     dsimp only at v0 v1 v2 v3 v4
     have HK:=zf k0 k1 k2 k3 k4
     have HF:=zh hF
     have HLB:=zh hB
     clear B13 O13 U13 Z13 hF hB k0 k1 k2 k3 k4 R HS KG2 hgR hrT HGI HB12 HO12 HX12 HZ12 HLB12
     go_wp2_with fail
     generalize (w12.setCell ⟨rg,n/4,none⟩ (.int .i64 (gt:Nat)))=w13 at*
     refine KG.o.mono ?_
     rintro e' w9 ⟨rfl,rfl⟩
     go_wp2_with fail
     obtain⟨k0,k1,k2,k3,k4⟩:=HK.o
     refine bodyPost_ret (v:=.tuple #[ae aj noV,.int .i64 7]) ?_ rfl ⟨noV,by rw[RX1.o,RE1.o];rfl,by rw[RX1.o];exact HF.o,HLB.o⟩
     simp[results,results94,go_sem,ae,aj,noV,k0,k1,k2,k3,k4]
    ·rw[if_neg hg2]at R
     have c123:=HGI.o (by rw[e1];exact hg2)
     rw[e1]at c123
     obtain⟨c1,c2,hf2,_⟩:=c123
     have hx1:=du (s:=aC [-1,0,0,0]) g2
     have hx2:=du (s:=aC (af m (n/4))) g2
     have hgd:gt≠aS (laid m.slots gt (aC (af m (n/4)))):= λe=>absurd (hf2 _ (by rw[<-e];exact hx1)) (by decide)
     rw[zH g2 hgd (aC [-1,0,0,0]) (aC (af m (n/4)))]at R
     generalize hgn2:aS (laid m.slots gt (aC (af m (n/4))))=g at*
     have HRX:=zh (HWE.o _ R).1.1.sound
     have RX0:=HX0.o.symm
     have RE0:=HE0.o.symm
     rw[R]at RX0 RE0
     have RX1:=zh RX0
     have RE1:=zh RE0
     clear RX0 RE0
     have HT:=zh ((eL (s:=bF pg) (zl hx2) hgd).trans hx2)
     have H4:Hid ((aC (af m (n/4))).table.length=4):=zh (aU H41.o).1
     have KG:=zh KG2
     have HLAY':Calls prog 151 #[ae {m with slots:=laid m.slots gt (aC (af m (n/4))),root:=m.root.set (n/4) (gt:Nat)} ⟨some ⟨rg,0,none⟩,trn,trc,tsA,tsn,tsc,tfA,tfn,tfc,tpA,tpn,tpc⟩,.int .i64 (g:Nat),.agg #[.int .i64 1,.string pg,.slice none 0 0]] _ (rz w6.heap.size tg' ⟨some ⟨rg,0,none⟩,trn,trc,tsA,tsn,tsc,tfA,tfn,tfc,tpA,tpn,tpc⟩ p {m with slots:=laid (laid m.slots gt (aC (af m (n/4)))) g (bF pg),root:=m.root.set (n/4) (gt:Nat)} _):=m3 w6.heap.size tg' _ q11 p {m with slots:=laid m.slots gt (aC (af m (n/4))),root:=m.root.set (n/4) (gt:Nat)} g (bF pg) none 0 0 _ O13 (by omega) (by show g<=(laid m.slots gt (aC (af m (n/4)))).length;omega) (by show(laid m.slots gt (aC (af m (n/4)))).length<=40;omega) c1 hpz TabO.nil
     dsimp only[ae]at HLAY'
     have HLAY:=zh HLAY'
     have HX8:=zh X13
     have HB8:=zh B13
     have HZ8:=zh Z13
     have HU8:=zh U13
     obtain⟨v0,v1,v2,v3,v4⟩:=X13
     dsimp only at v0 v1 v2 v3 v4
     have e19:((g:Int)==0)=false:=by simp;omega
     clear B13 O13 U13 Z13 HLAY' R HS KG2 hgR hrT HGI HB12 HO12 HX12 HZ12 HLB12 hx1 hx2 hf2 hgn2 hg2
     go_wp2_with fail
     generalize (w12.setCell ⟨rg,n/4,none⟩ (.int .i64 (gt:Nat)))=w13 at*
     refine KG.o.mono ?_
     rintro e' w9 ⟨rfl,rfl⟩
     go_wp2_with fail
     refine HLAY.o.mono ?_
     rintro e' w9 ⟨⟨trA,trn,trc,tsA,tsn,tsc,tfA,tfn,tfc,tpA,tpn,tpc⟩,q9,rfl,hO9,_,_,_,_,hb9,hKI⟩
     obtain⟨X9,B9⟩:=hKI.box HB8.o HX8.o
     have Z9:=hKI.zb HZ8.o
     have h5:=dr B9 ⟨_,_,X9⟩ m.guest ⟨trA,trn,trc,tsA,tsn,tsc,tfA,tfn,tfc,tpA,tpn,tpc⟩
     dsimp only at h5
     have O10:=hO9.kept h5.2.2 B9.ty (by decide) (by decide) (by decide)
     obtain⟨sb,g5,n5,c5,q11,hsA,hTl,hn5,hhd,hg5,hgT,hgf,⟨u5,hcy⟩,O11⟩:=O10.setTabO HT.o (i:=n%4) (by rw[H4.o];omega) (g:Nat)
     rw[H4.o]at hn5
     dsimp only at hsA hTl O11
     subst hsA hn5
     have s9:=hb9.size
     have s10:=h5.2.2.size
     have hg:=ai (((((w9.setCell ⟨w7.heap.size,0,none⟩ (.int .i64 m.guest)).setCell ⟨w7.heap.size,1,none⟩ (.slice trA trn trc)).setCell ⟨w7.heap.size,2,none⟩ (.slice (some ⟨sb,0,none⟩) tsn tsc)).setCell ⟨w7.heap.size,3,none⟩ (.slice tfA tfn tfc)).setCell ⟨w7.heap.size,4,none⟩ (.slice tpA tpn tpc)) g5 (n%4) (.int .i64 (g:Nat))
     have hn9:w7.heap.size≠g5:=h5.2.1.ty.ne hgT (by decide)
     have Z10:ZB _ (w.heap.size+1):=⟨(h5.2.2.block _ Z9.box.1.ty.lt (λe=>by injection e with e;omega)).trans Z9.heap⟩
     have hnZ:w.heap.size+1≠g5:=Z10.box.1.ty.ne hgT (by decide)
     have X11:=h5.1.kept hg (λe=>hn9 (by injection e))
     have Z11:ZB _ (w.heap.size+1):=⟨(hg.block _ Z10.box.1.ty.lt (λe=>hnZ (by injection e))).trans Z10.heap⟩
     have HSND:=HRX.o
     have KC:=zh (cU w6.heap.size tg' _ q11 p _ _ O11 (by have:=hg.size;omega) HSND.cbd)
     have LB:=((HU8.o.trans (hb9.mono (by omega))).grown h5.2.2 (by omega) (λj e=>by injection e with e;omega)).setCell (p:=⟨g5,n%4,none⟩) (show w.heap.size<=g5 by omega) (.int .i64 (g:Nat))
     obtain⟨v0,v1,v2,v3,v4⟩:=X9
     obtain⟨a0,a1,a2,a3,a4⟩:=h5.1
     obtain⟨x0,x1,x2,x3,x4⟩:=X11
     have y10:=B9.fz 0
     have y11:=B9.fz 1
     have y12:=B9.fz 2
     have y13:=B9.fz 3
     have y14:=B9.fz 4
     have HZ11:=zh Z11
     have HLB:=zh LB
     have et0:(0:Int)<=(gt:Int):=by omega
     have et1:(gt:Int)<(tsn:Int):=by omega
     dsimp only[ae]at v0 v1 v2 v3 v4 a0 a1 a2 a3 a4 x0 x1 x2 x3 x4 KC⊢
     clear Z9 Z10 Z11 h5 hb9 hKI B9 LB O10 O11 hO9 hg hgT HLAY HX8 HB8 HZ8 HU8 HSND
     repeat (first|go_skip|go_guarded|go_step|go_upon)
     generalize ((((((w9.setCell ⟨w7.heap.size,0,none⟩ (.int .i64 m.guest)).setCell ⟨w7.heap.size,1,none⟩ (.slice trA trn trc)).setCell ⟨w7.heap.size,2,none⟩ (.slice (some ⟨sb,0,none⟩) tsn tsc)).setCell ⟨w7.heap.size,3,none⟩ (.slice tfA tfn tfc)).setCell ⟨w7.heap.size,4,none⟩ (.slice tpA tpn tpc)).setCell ⟨g5,n%4,none⟩ (.int .i64 (g:Nat)))=w11 at*
     refine KC.o.mono ?_
     rintro e' w12 ⟨⟨zrA,zrn,zrc,zsA,zsn,zsc,zfA,zfn,zfc,zpA,zpn,zpc⟩,tg12,q12,p12,rfl,hO12,hb12⟩
     have Z12:=HZ11.o.nextB hb12 (by omega)
     have hsX:ap {m with root:=m.root.set (n/4) (gt:Nat),slots:=(laid (laid m.slots gt (aC (af m (n/4)))) g (bF pg)).set gt {aC (af m (n/4))with table:=(aC (af m (n/4))).table.set (n%4) (g:Nat)}}=X:=RX1.o.symm
     rw[hsX]at hO12⊢
     obtain⟨⟨k0,k1,k2,k3,k4⟩,hO2,hg2⟩:=kv Z12 hO12
     have s12:=hb12.size
     have s13:=HLB.o.size
     have LB2:=(HLB.o.trans (hb12.mono (by omega))).grown hg2 (by omega) (λj e=>by injection e with e;omega)
     obtain⟨u0,u1,u2,u3,u4⟩:=Z12.cells
     dsimp only at k1 k2 k3 k4
     obtain⟨q0,q1,q2,q3,q4⟩:=Z12.froz
     have HK:=zf k0 k1 k2 k3 k4
     have HO:=zh hO2
     have HLB2:=zh LB2
     dsimp only[ae]
     clear Z12 hO12 hb12 hO2 hg2 LB2 k0 k1 k2 k3 k4 HZ11 KC x0 x1 x2 x3 x4 a0 a1 a2 a3 a4 v0 v1 v2 v3 v4
     go_wp2_with fail
     obtain⟨k0,k1,k2,k3,k4⟩:=HK.o
     refine bodyPost_ret (v:=.tuple #[ae X ⟨zrA,zrn,zrc,zsA,zsn,zsc,zfA,zfn,zfc,zpA,zpn,zpc⟩,.int .i64 0]) ?_ rfl ⟨_,by rw[RE1.o];rfl,.inr ⟨w6.heap.size,_,_,_,by omega,HO.o⟩,HLB2.o⟩
     simp[results,results94,go_sem,k0,k1,k2,k3,k4,ae]
theorem wM (v:IV) (m:Img) (n:Int) (pg:ByteArray) (w:World) (h:ImgR w w.heap.size v m) (he:aE m n≠0):
  Calls prog 94 #[ae m v,.int .i64 n,.string pg] w (aF w.heap.size aj (aE m n) w):=by
 have K1':= λW (hb:Below w.heap.size w W)=>dq v m n W (h.next hb)
 obtain⟨W4,hW,f1,f2,_,f4,f5⟩:=eU w m.guest v
 have lz:(aE m n !=0)=true:=by simpa using he
 generalize aE m n=er at*
 obtain⟨rA,rn,rc,sA,sn,sc,fA,fn,fc,pA,pn,pc⟩:=v
 dsimp only[ae]at*
 have K1:=zh (K1' _ f1)
 obtain⟨x0,x1,x2,x3,x4⟩:=f2
 dsimp only at x0 x1 x2 x3 x4
 clear K1' h he
 go_enter func94,ntmps94
 go_wp2_with fail
 rw[hW.o]
 refine K1.o.mono ?_
 rintro e w5 ⟨rfl,hb5⟩
 have B5:=aa f1 hb5
 have Z5:=f4.nextB hb5 (by omega)
 obtain⟨y0,y1,y2,y3,y4⟩:=Z5.cells
 obtain⟨q0,q1,q2,q3,q4⟩:=Z5.froz
 have O:=ix Z5 (X:=aj) (v:=noV) (B:=w.heap.size) (.inl ⟨rfl,rfl⟩) B5 (Nat.le_refl _) (by omega)
 dsimp only[aj,noV]at O
 obtain⟨⟨k0,k1,k2,k3,k4⟩,hF,hB⟩:=O
 have HK:=zg k0 k1 k2 k3 k4 hF hB
 clear x0 x1 x2 x3 x4 f1 f4 K1 Z5 B5 hb5 k0 k1 k2 k3 k4 hF hB
 go_wp2_with fail
 obtain⟨k0,k1,k2,k3,k4,hF,hB⟩:=HK.o
 refine bodyPost_ret (v:=.tuple #[ae aj noV,.int .i64 er]) ?_ rfl ⟨noV,rfl,hF,hB⟩
 simp[results,results94,go_sem,ae,aj,noV,k0,k1,k2,k3,k4]
theorem rD (v:IV) (m:Img) (n:Int) (pg:ByteArray) (w:World) (h:ImgR w w.heap.size v m) (he:aE m n=0) (hp:pg.size≠4):
  Calls prog 94 #[ae m v,.int .i64 n,.string pg] w (aF w.heap.size aj 1 w):=by
 have K1':= λW (hb:Below w.heap.size w W)=>dq v m n W (h.next hb)
 obtain⟨W4,hW,f1,f2,_,f4,f5⟩:=eU w m.guest v
 rw[he]at K1'
 have g4:((pg.size:Int) !=4)=true:=by simp;omega
 obtain⟨rA,rn,rc,sA,sn,sc,fA,fn,fc,pA,pn,pc⟩:=v
 dsimp only[ae]at*
 have K1:=zh (K1' _ f1)
 obtain⟨x0,x1,x2,x3,x4⟩:=f2
 dsimp only at x0 x1 x2 x3 x4
 clear K1' h he
 go_enter func94,ntmps94
 go_wp2_with fail
 rw[hW.o]
 refine K1.o.mono ?_
 rintro e w5 ⟨rfl,hb5⟩
 have B5:=aa f1 hb5
 have Z5:=f4.nextB hb5 (by omega)
 obtain⟨y0,y1,y2,y3,y4⟩:=Z5.cells
 obtain⟨q0,q1,q2,q3,q4⟩:=Z5.froz
 have O:=ix Z5 (X:=aj) (v:=noV) (B:=w.heap.size) (.inl ⟨rfl,rfl⟩) B5 (Nat.le_refl _) (by omega)
 dsimp only[aj,noV]at O
 obtain⟨⟨k0,k1,k2,k3,k4⟩,hF,hB⟩:=O
 have HK:=zg k0 k1 k2 k3 k4 hF hB
 clear x0 x1 x2 x3 x4 f1 f4 K1 Z5 B5 hb5 k0 k1 k2 k3 k4 hF hB
 go_wp2_with fail
 obtain⟨k0,k1,k2,k3,k4,hF,hB⟩:=HK.o
 refine bodyPost_ret (v:=.tuple #[ae aj noV,.int .i64 1]) ?_ rfl ⟨noV,rfl,hF,hB⟩
 simp[results,results94,go_sem,ae,aj,noV,k0,k1,k2,k3,k4]
theorem uo (v:IV) (m:Img) (n:Int) (pg:ByteArray) (w:World) (h:ImgR w w.heap.size v m):
  Calls prog 94 #[ae m v,.int .i64 n,.string pg] w (aF w.heap.size (eP m n pg) (dE m n pg) w):=by
 unfold eP dE
 by_cases he:aE m n=0
 ·obtain⟨hm,h0,hnn⟩:=dm he
  obtain⟨k,rfl⟩:=Int.eq_ofNat_of_zero_le h0
  rw[if_pos he]
  by_cases hp:pg.size=4
  ·rw[if_pos hp,if_pos ⟨he,hp⟩,Int.toNat_natCast]
   refine um v m k pg w h he hp _ _ rfl rfl ?_
   rcases dM hm (iF hm hnn)with h0|⟨j,s,hj,hj1,hs,hk2,_⟩
   ·exact .inr (.inr ⟨0,h0,.inl rfl⟩)
   ·have hjl:=(zl hs)
    by_cases hr:int m.refs j=1
    ·obtain⟨l1,l2⟩:=pj hm k
     by_cases hen:0<ag m.slots m.root k
     ·obtain⟨d,sd,e,hd,_⟩:=l2 hen
      have hd1:1<=d:=by omega
      by_cases hr2:int m.refs d=1
      ·exact .inl ⟨j,d,sd,hj,hj1,hjl,hr,e,hd1,hd,hr2⟩
      ·exact .inr (.inl ⟨j,s,hj,hj1,hjl,hr,hs,hk2,.inr ⟨d,sd,e,hd1,hd,hr2⟩⟩)
     ·exact .inr (.inl ⟨j,s,hj,hj1,hjl,hr,hs,hk2,.inl (by omega)⟩)
    ·have hr1:1<int m.refs j:=by
      have h1:=jo hm hjl
      have h2:=nn (cy m) (List.mem_of_getElem? (fF hj (by omega))) hj1
      omega
     exact .inr (.inr ⟨j,hj,.inr ⟨hj1,hjl,hr1⟩⟩)
  ·rw[if_neg hp,if_neg (λh=>hp h.2)]
   exact rD v m k pg w h he hp
 ·rw[if_neg he,if_neg (λh=>he h.1)]
  exact wM v m n pg w h he
end Go.Proofs.YtdbneghfbkjinaaGreatDoor
