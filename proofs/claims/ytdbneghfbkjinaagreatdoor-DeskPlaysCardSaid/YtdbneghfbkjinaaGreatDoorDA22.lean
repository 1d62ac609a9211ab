/- Texts of the proof of deskPlays_holds: WTurn. Conditions: as each text says. -/
import Derived.Test.YtdbneghfbkjinaaGreatDoorDA1
import Derived.Test.YtdbneghfbkjinaaGreatDoorDA20
import Derived.Test.YtdbneghfbkjinaaGreatDoorDA21
set_option maxRecDepth 100000
set_option maxHeartbeats 1000000
namespace Go.Proofs.YtdbneghfbkjinaaGreatDoor
open Go.Proofs.Tryz
open Go.RowKit Sl
section
variable {w w':World} {base:Nat} {tg:Nat->Nat} {v:IV} {q:List SV} {p:List PV} {m:Img}
def nV (tg:Nat->Nat) (t:Nat):Nat->Nat:= λg=>if tg g=3 then t else tg g
theorem TabO.marked {t n c s:Nat} {A:Option Addr} {xs:List Int} (h:TabO w base tg t A n c xs) (ht:t≠3):TabO w base (nV tg s) t A n c xs:=
 ⟨h.1,h.2.1,h.2.2.imp id λ⟨ho,e⟩=>⟨ho,λb eb=>by unfold nV;rw[e b eb,if_neg ht]⟩⟩
theorem TabO.given {n c s:Nat} {A:Option Addr} {xs:List Int} (h:TabO w base tg 3 A n c xs):TabO w base (nV tg s) s A n c xs:=
 ⟨h.1,h.2.1,h.2.2.imp (λhh=>⟨hh.1,hh.2.1,.inr (hh.2.2.resolve_left (by decide))⟩) λ⟨ho,e⟩=>⟨ho,λb eb=>by unfold nV;rw[e b eb,if_pos rfl]⟩⟩
theorem OwnI.marked (h:OwnI w base tg v q p m) (s:Nat):OwnI w base (nV tg s) v q p m:=
 ⟨h.root.marked (by decide),h.refs.marked (by decide),h.slots,h.sle,h.scap,h.snaps,h.ple,h.pcap,h.hq,h.hp,λk x hx=>⟨(h.tabs k x hx).1,(h.tabs k x hx).2.marked (by omega)⟩,λk x hx=>⟨(h.roots k x hx).1,(h.roots k x hx).2.marked (by omega)⟩⟩
theorem DeskAt.marked {b:Nat} (h:DeskAt w base tg b v q p m) (s:Nat):DeskAt w base (nV tg s) b v q p m:=⟨h.own.marked s,h.box,h.ty,h.lo⟩
theorem DeskAt.retag {b:Nat} {tg':Nat->Nat} (h:DeskAt w base tg b v q p m) (ht:∀b,b<w.heap.size->tg' b=tg b):DeskAt w base tg' b v q p m:=⟨h.own.retag ht,h.box,h.ty,h.lo⟩
theorem TabO.stored {t n c:Nat} {A:Option Addr} {xs:List Int} (h:TabO w base tg t A n c xs) {k:Nat} (hk:k<n) (y:Int):∃b,A=some ⟨b,0,none⟩/\base<=b/\b<w.heap.size/\tg b=t/\TypeB w b 3/\
  (∃x,xs[k]? =some x/\w.cell? ⟨b,k,none⟩=some (.int .i64 x))/\w.frozen? ⟨b,k,none⟩=false/\TabO (w.setCell ⟨b,k,none⟩ (.int .i64 y)) base tg t A n c (xs.set k y):=by
 rcases h.2.2 with⟨rfl,_⟩|⟨ho,ht⟩
 ·omega
 ·obtain⟨b,rfl,h1,h2⟩:=bK ho (by omega)
  obtain⟨o1,g1⟩:=ho.stored k (.int .i64 y)
  have hr:=(Rd.of_own ho).len
  have hx:k<xs.length:=by omega
  refine⟨b,rfl,h1,h2,ht b rfl,au ho rfl,⟨xs[k],List.getElem?_eq_getElem hx,?_⟩,ho.frozenAt k,h.1,h.2.1,.inr ⟨?_,ht⟩⟩
  ·have:=ho.cellAt k (by omega)
   rw[this];simp[ah,List.getElem?_eq_getElem hx]
  ·rw[show ah (xs.set k y)=(ah xs).set k (.int .i64 y)from by simp[ah,List.map_set]];exact o1
theorem DeskAt.setRoot {b:Nat} (h:DeskAt w base tg b v q p m) {k:Nat} (hk:k<v.rn) (y:Int):∃g,v.rA=some ⟨g,0,none⟩/\base<=g/\w.frozen? ⟨g,k,none⟩=false/\(∃x,w.cell? ⟨g,k,none⟩=some (.int .i64 x))/\
  DeskAt (w.setCell ⟨g,k,none⟩ (.int .i64 y)) base tg b v q p {m with root:=m.root.set k y}:=by
 obtain⟨g,hA,h1,h2,h3,h4,⟨x,_,hx⟩,h6,h7⟩:=h.own.root.stored hk y
 have hg:=ai w g k (.int .i64 y)
 have ht:∀{t n c:Nat} {A:Option Addr} {xs:List Int},TabO w base tg t A n c xs->t≠0->TabO (w.setCell ⟨g,k,none⟩ (.int .i64 y)) base tg t A n c xs:= λhh hn=>hh.kept hg λb' e _=>by injection e with e;subst e;exact .inr (by omega)
 have hne:some b≠some g:= λe=>h.ty.ty.ne h4 (by decide) (by injection e)
 exact⟨g,hA,h1,h6,⟨x,hx⟩,⟨h7,ht h.own.refs (by decide),h.own.slots.kept hg (bH h.own.slots h4 (by decide)),h.own.sle,h.own.scap,h.own.snaps.kept hg (bH h.own.snaps h4 (by decide)),h.own.ple,h.own.pcap,h.own.hq,h.own.hp,
  λk x hx=>⟨(h.own.tabs k x hx).1,ht (h.own.tabs k x hx).2 (by omega)⟩,λk x hx=>⟨(h.own.roots k x hx).1,ht (h.own.roots k x hx).2 (by omega)⟩⟩,h.box.kept hg hne,h.ty.kept hg hne,h.lo⟩
end
def TurnRes (base b:Nat) (o:Option Img) (w:World) (e:Ending) (w':World):Prop:=
 match o with
 |none=>e=.panicked [{v:=pN,recovered:=false}]/\Below base w w'
 |some m2=>e=.returned (.tuple #[])/\(∃tg v q p,DeskAt w' base tg b v q p m2)/\Below base w w'
theorem dM {m:Img} (h:ab m=0) {k:Nat} (hk:k<m.root.length):int m.root k=0\/ ∃j s,int m.root k=(j:Nat)/\1<=j/\m.slots[j]? =some s/\s.kind=2/\s.table.length=4:=by
 have hs:=ay (aq h).1
 have hw:=(aq h).1
 have hr:=(gM hw).roots m.root (List.mem_cons_self ..) (int m.root k) (by unfold int;rw[List.getD_eq_getElem?_getD,List.getElem?_eq_getElem hk];exact List.getElem_mem _)
 refine hr.imp id λh2=>?_
 obtain⟨j,e,h1,hl,hk2⟩:=bw h2 (by decide)
 have hx:=List.getElem?_eq_getElem hl
 rw[aL hx]at hk2
 exact⟨j,_,e,h1,hx,hk2,gz hs.slots hx hk2⟩
theorem ip {m:Img} (h:ab m=0) {k:Nat} (hk:k<m.root.length):AP m k:=
 (dM h hk).imp (λe=>by omega) (λ⟨j,s,e,h1,hs,_,h4⟩=>⟨j,s,e,h1,hs,h4⟩)
theorem dw {m:Img} (h:ab m=0):m.refs.length=m.slots.length:=(dI (aq h).1).1.refs
def fj (m:Img) (k:Nat) (t:List Int):Option Img:=
 if gu m k=true then some {m with slots:=m.slots.set (int m.root k).toNat (aC t)}
 else if aS m.slots=0 then none
 else some {m with slots:=laid m.slots (aS m.slots) (aC t),root:=m.root.set k (aS m.slots:Nat)}
theorem TurnRes.yes {base b:Nat} {o:Option Img} {m2:Img} {w w':World} {tg:Nat->Nat} {v:IV} {q:List SV} {p:List PV} (ho:o=some m2) (hd:DeskAt w' base tg b v q p m2) (hb:Below base w w'):TurnRes base b o w (.returned (.tuple #[])) w':=by
 subst ho;exact⟨rfl,⟨tg,v,q,p,hd⟩,hb⟩
theorem TurnRes.no {base b:Nat} {o:Option Img} {w w':World} (ho:o=none) (hb:Below base w w'):TurnRes base b o w (.panicked [{v:=pN,recovered:=false}]) w':=by
 subst ho;exact⟨rfl,hb⟩
theorem pQ {m:Img} {k j:Nat} {l:List Int} (hj:int m.root k=(j:Nat)) (h1:1<=j) (hr:int m.refs j=1):fj m k l=some {m with slots:=m.slots.set j (aC l)}:=by
 unfold fj gu;rw[hj,Int.toNat_natCast,hr,decide_eq_true (by omega)];rfl
theorem lJ {m:Img} {k:Nat} (hj:int m.root k=0):gu m k=false:=by unfold gu;rw[hj];rfl
theorem lK {m:Img} {k j:Nat} (hj:int m.root k=(j:Nat)) (hr:int m.refs j≠1):gu m k=false:=by
 unfold gu;rw[hj,Int.toNat_natCast];simp;intro _;exact hr
theorem kN {m:Img} {k:Nat} {l:List Int} (ho:gu m k=false) (hg:aS m.slots=0):fj m k l=none:=by unfold fj;rw[ho,if_neg (by decide),if_pos hg]
theorem mq {m:Img} {k:Nat} {l:List Int} (ho:gu m k=false) (hg:aS m.slots≠0):fj m k l=some {m with slots:=laid m.slots (aS m.slots) (aC l),root:=m.root.set k (aS m.slots:Nat)}:=by unfold fj;rw[ho,if_neg (by decide),if_neg hg]
theorem yB (base:Nat) (tg:Nat->Nat) (b:Nat) (v:IV) (q:List SV) (p:List PV) (m:Img) (k:Nat) (l:List Int) (A:Option Addr) (n c:Nat) (w:World) (h:DeskAt w base tg b v q p m) (hm:ab m=0) (hk:k<v.rn) (ht:TabO w base tg 3 A n c l):
  Calls prog 122 #[.pointer (some ⟨b,0,none⟩),.int .i64 (k:Nat),.slice A n c] w (TurnRes base b (fj m k l) w):=by
 have hI:=h.own.imgR
 have hbl:=h.ty.ty.lt
 have hlo:=h.lo
 have hrcap:=hI.rcap.1
 have hfcap:=hI.fcap.1
 have hse:=(ay (aq hm).1).slots
 obtain⟨b1,hA,_,hb1,_,_,⟨t,hti,c1⟩,_⟩:=h.own.root.stored hk 0
 have hit:=bG hti
 have HB1:=ac w (.cells #[.int .i64 2,.string {data:=#[]},.slice A n c] 108)
 have hl3:w.heap.size<(w.alloc (.cells #[.int .i64 2,.string {data:=#[]},.slice A n c] 108)).heap.size:=by simp
 have HX:=h.box.keep HB1 hbl
 have c1':=(HB1.cell (p:=⟨b1,k,none⟩) hb1).trans c1
 have t3:= λj=>cell_of_row (w.alloc (.cells #[.int .i64 2,.string {data:=#[]},.slice A n c] 108)) w.heap.size j _ _ _ (heap_alloc_new w _)
 have T30:=t3 0
 have T31:=t3 1
 have T32:=t3 2
 simp only[List.getElem?_toArray,List.getElem?_cons_zero,List.getElem?_cons_succ]at T30 T31 T32
 have hD1:=h.next HB1
 have hT1:=ht.next HB1
 have hfl:=dw hm
 have hfn:=hI.flen
 have hsn:=hI.slen
 have hrf:=dM hm (k:=k) (by have:=hI.rlen;omega)
 have e0:(0:Int)<=(k:Int):=by omega
 have e1:(k:Int)<(v.rn:Int):=by omega
 have hjr:∀j,j<v.sn->∃b2 o2 r,v.fA=some ⟨b2,o2,none⟩/\int m.refs j=r/\(w.alloc (.cells #[.int .i64 2,.string {data:=#[]},.slice A n c] 108)).cell? ⟨b2,o2+j,none⟩=some (.int .i64 r):=by
  intro j hj
  obtain⟨b2,o2,r,f1,f2,f3,f4⟩:=hI.refs.at1 (k:=j) (by omega)
  exact⟨b2,o2,r,f1,bG f3,(HB1.cell (p:=⟨b2,o2+j,none⟩) f2).trans f4⟩
 have hown:∀j:Nat,(j:Int)=t->1<=j->j<v.sn->int m.refs j=1->Calls prog 122 #[.pointer (some ⟨b,0,none⟩),.int .i64 (k:Nat),.slice A n c] w (TurnRes base b (fj m k l) w):=by
  intro j hj hj1 hjs hr1
  have R:=zh (pQ (l:=l) (hit.trans hj.symm) hj1 hr1)
  have hfn2:v.fn=v.sn:=by omega
  obtain⟨b2,o2,r,hFA,hr,c2⟩:=hjr j hjs
  obtain⟨sb,hsA,hsb,hslt⟩:=bK h.own.slots (by omega)
  have HD1:=zh hD1
  have HTG:=zh ((hT1.given (s:=2*j+4)))
  have HMK:=zh (hD1.marked (2*j+4))
  obtain⟨rA,rn,rc,sA,sn,sc,fA,fn,fc,pA,pn,pc⟩:=v
  dsimp only at*
  subst hA hsA hFA hj
  rw[hr1]at hr
  subst hr hfn2
  obtain⟨x0,x1,x2,x3,x4⟩:=HX
  dsimp only at x0 x1 x2 x3 x4
  have e2:(0:Int)<(j:Int):=by omega
  have e3:(j:Int)<(fn:Int):=by omega
  have e4:(0:Int)<=(j:Int):=by omega
  have hbw:base<=w.heap.size:=by omega
  have HH1:=HMK.o
  have hsl:=HH1.own.slots
  have hq1:j<q.length:=by have:=HH1.own.qlen;dsimp only at this;omega
  have hqk:=List.getElem?_eq_getElem hq1
  generalize q[j]=xk at hqk
  have y0:=hsl.cellAt (j*3) (by dsimp only;omega)
  have y1:=hsl.cellAt (j*3+1) (by dsimp only;omega)
  have y2:=hsl.cellAt (j*3+2) (by dsimp only;omega)
  have f0:=hsl.frozenAt (j*3)
  have f1:=hsl.frozenAt (j*3+1)
  have f2:=hsl.frozenAt (j*3+2)
  have z0:=av SV.cells SV.cells_len _ j xk hqk 0 (by omega)
  rw[Nat.add_zero]at z0
  rw[z0]at y0
  rw[av SV.cells SV.cells_len _ j xk hqk 1 (by omega)]at y1
  rw[av SV.cells SV.cells_len _ j xk hqk 2 (by omega)]at y2
  simp only[SV.cells,bE,List.getElem?_cons_zero,List.getElem?_cons_succ]at y0 y1 y2
  obtain⟨n1,n2⟩:=HH1.own.set3 (x':=⟨aC l,A,n,c⟩) rfl hqk (show(0:Nat)<=_ by omega) HTG.o
  have hne:b≠sb:=HH1.ty.ty.ne (au HH1.own.slots (b:=sb) rfl) (by decide)
  have D:=DeskAt.mk n1 (HH1.box.kept n2 (λe=>hne (by injection e))) (HH1.ty.kept n2 (λe=>hne (by injection e))) hlo
  have LB:=(HB1.mono hbw).grown n2 (by omega) (λj e=>by injection e with e;omega)
  have HDD:=zh D
  have HLB:=zh LB
  clear hI h hm ht hse hti hit HB1 c1 t3 hD1 hT1 hfl hfn hsn hrf hjr hr1 HD1 HTG HMK HH1 hsl hq1 hqk z0 n1 n2 D LB
  go_enter func122,ntmps122
  go_wp2_with fail
  generalize (w.alloc (.cells #[.int .i64 2,.string {data:=#[]},.slice A n c] 108))=w1 at*
  go_still_tail 8,(by kernel_rfl)
  go_wp2_with fail
  go_end0
  exact TurnRes.yes R.o (HDD.o.next (Below.refl _ _).drew) HLB.o.drew
 have hbase:base<=w.heap.size:=by omega
 have hnew:∀(hno:gu m k=false) (ht0:t=0\/ ∃j:Nat,t=(j:Nat)/\1<=j/\j<v.sn/\int m.refs j≠1),Calls prog 122 #[.pointer (some ⟨b,0,none⟩),.int .i64 (k:Nat),.slice A n c] w (TurnRes base b (fj m k l) w):=by
  intro hno ht0
  have hcell:v.rA=some ⟨b1,0,none⟩:=hA
  by_cases hg:aS m.slots=0
  ·have R:=zh (kN (l:=l) hno hg)
   have KG:=zh (λW (hb:Below w.heap.size w W)=>j8 base tg b v q p m (aC l) A n c W (h.next hb) hse hg)
   clear hown hg hno h ht hse hti hit c1 t3 hT1 hcell
   rcases ht0 with rfl|⟨j,rfl,hj1,hjs,hr1⟩
   ·clear hjr hfl hfn hrf
    obtain⟨rA,rn,rc,sA,sn,sc,fA,fn,fc,pA,pn,pc⟩:=v
    obtain⟨x0,x1,x2,x3,x4⟩:=HX
    dsimp only at*
    subst hA
    have HBB:=zh HB1
    clear hI hD1 HB1
    go_enter func122,ntmps122
    go_wp2_with fail
    generalize (w.alloc (.cells #[.int .i64 2,.string {data:=#[]},.slice A n c] 108))=w1 at*
    refine wp_region_held_drew (S:= λw'=>w'.cell? ⟨b,1,none⟩=some (.slice (some ⟨b1,0,none⟩) rn rc)/\w'.cell? ⟨w.heap.size,0,none⟩=some (.int .i64 2)/\w'.cell? ⟨w.heap.size,1,none⟩=some (.string {data:=#[]})/\w'.cell? ⟨w.heap.size,2,none⟩=some (.slice A n c)) (by kernel_rfl) ⟨x1,T30,T31,T32⟩ (λhHeld=>?_)
    apply wpAnyH_take (i:=0)
    case hi=>rfl
    case hs=>kernel_rfl
    case hf=>kernel_rfl
    case hr=>kernel_rfl
    case hQ=>exactλ_ _ _ h=>h
    case hy=>exact Or.inl ⟨by rfl,λw' hSw=>by(obtain⟨s0,s1,s2,s3⟩:=hSw;go_simp;try with_reducible rfl)⟩
    case hS=>assumption
    apply wpAnyH_take (i:=1)
    case hi=>rfl
    case hs=>kernel_rfl
    case hf=>kernel_rfl
    case hr=>kernel_rfl
    case hQ=>exactλ_ _ _ h=>h
    case hy=>exact Or.inl ⟨by rfl,λw' hSw=>by(obtain⟨s0,s1,s2,s3⟩:=hSw;go_simp;try with_reducible rfl)⟩
    case hS=>assumption
    apply wpAnyH_take (i:=2)
    case hi=>rfl
    case hs=>kernel_rfl
    case hf=>kernel_rfl
    case hr=>kernel_rfl
    case hQ=>exactλ_ _ _ h=>h
    case hy=>exact Or.inl ⟨by rfl,λw' hSw=>by(obtain⟨s0,s1,s2,s3⟩:=hSw;go_simp;try with_reducible rfl)⟩
    case hS=>assumption
    apply wpAnyH_take (i:=3)
    case hi=>rfl
    case hs=>kernel_rfl
    case hf=>kernel_rfl
    case hr=>kernel_rfl
    case hQ=>exactλ_ _ _ h=>h
    case hy=>exact Or.inl ⟨by rfl,λw' hSw=>by(obtain⟨s0,s1,s2,s3⟩:=hSw;go_simp;try with_reducible rfl)⟩
    case hS=>assumption
    apply wpAnyH_take (i:=4)
    case hi=>rfl
    case hs=>kernel_rfl
    case hf=>kernel_rfl
    case hr=>kernel_rfl
    case hQ=>exactλ_ _ _ h=>h
    case hy=>exact Or.inl ⟨by rfl,λw' hSw=>by(obtain⟨s0,s1,s2,s3⟩:=hSw;go_simp;try with_reducible rfl)⟩
    case hS=>assumption
    apply wpAnyH_take (i:=5)
    case hi=>rfl
    case hs=>kernel_rfl
    case hf=>kernel_rfl
    case hr=>kernel_rfl
    case hQ=>exactλ_ _ _ h=>h
    case hy=>exact Or.inl ⟨by rfl,λw' hSw=>by(obtain⟨s0,s1,s2,s3⟩:=hSw;go_simp;try with_reducible rfl)⟩
    case hS=>assumption
    apply wpAnyH_take (i:=6)
    case hi=>rfl
    case hs=>kernel_rfl
    case hf=>kernel_rfl
    case hr=>kernel_rfl
    case hQ=>exactλ_ _ _ h=>h
    case hy=>exact Or.inl ⟨by rfl,λw' hSw=>by(obtain⟨s0,s1,s2,s3⟩:=hSw;go_simp;try with_reducible rfl)⟩
    case hS=>assumption
    apply wpAnyH_take (i:=7)
    case hi=>rfl
    case hs=>kernel_rfl
    case hf=>kernel_rfl
    case hr=>kernel_rfl
    case hQ=>exactλ_ _ _ h=>h
    case hy=>exact Or.inl ⟨by rfl,λw' hSw=>by(obtain⟨s0,s1,s2,s3⟩:=hSw;go_simp;try with_reducible rfl)⟩
    case hS=>assumption
    refine wpAnyH_ready (rs:=[8]) (by kernel_rfl) (by simp) (AllReadyH.cons rfl (λK' hK=>?_) AllReadyH.nil)
    go_simp
    refine(KG.o _ HBB.o.drew).mono ?_
    rintro e w5 ⟨rfl,hb5⟩
    exact⟨rfl,TurnRes.no R.o ((aa HBB.o.drew hb5).mono hbase)⟩
   ·skip
    have hfn2:v.fn=v.sn:=by omega
    obtain⟨b2,o2,r,hFA,hr,c2⟩:=hjr j hjs
    rw[hr]at hr1
    clear hr hjr hfl hfn hrf
    have hrr:(r==1)=false:=by simpa using hr1
    have e2:(0:Int)<(j:Int):=by omega
    have e3:(j:Int)<(v.fn:Int):=by omega
    have e4:(0:Int)<=(j:Int):=by omega
    obtain⟨rA,rn,rc,sA,sn,sc,fA,fn,fc,pA,pn,pc⟩:=v
    obtain⟨x0,x1,x2,x3,x4⟩:=HX
    dsimp only at*
    subst hA hFA
    have HBB:=zh HB1
    clear hI hD1 HB1
    go_enter func122,ntmps122
    go_wp2_with fail
    generalize (w.alloc (.cells #[.int .i64 2,.string {data:=#[]},.slice A n c] 108))=w1 at*
    refine wp_region_held_drew (S:= λw'=>w'.cell? ⟨b,1,none⟩=some (.slice (some ⟨b1,0,none⟩) rn rc)/\w'.cell? ⟨w.heap.size,0,none⟩=some (.int .i64 2)/\w'.cell? ⟨w.heap.size,1,none⟩=some (.string {data:=#[]})/\w'.cell? ⟨w.heap.size,2,none⟩=some (.slice A n c)) (by kernel_rfl) ⟨x1,T30,T31,T32⟩ (λhHeld=>?_)
    apply wpAnyH_take (i:=0)
    case hi=>rfl
    case hs=>kernel_rfl
    case hf=>kernel_rfl
    case hr=>kernel_rfl
    case hQ=>exactλ_ _ _ h=>h
    case hy=>exact Or.inl ⟨by rfl,λw' hSw=>by(obtain⟨s0,s1,s2,s3⟩:=hSw;go_simp;try with_reducible rfl)⟩
    case hS=>assumption
    apply wpAnyH_take (i:=1)
    case hi=>rfl
    case hs=>kernel_rfl
    case hf=>kernel_rfl
    case hr=>kernel_rfl
    case hQ=>exactλ_ _ _ h=>h
    case hy=>exact Or.inl ⟨by rfl,λw' hSw=>by(obtain⟨s0,s1,s2,s3⟩:=hSw;go_simp;try with_reducible rfl)⟩
    case hS=>assumption
    apply wpAnyH_take (i:=2)
    case hi=>rfl
    case hs=>kernel_rfl
    case hf=>kernel_rfl
    case hr=>kernel_rfl
    case hQ=>exactλ_ _ _ h=>h
    case hy=>exact Or.inl ⟨by rfl,λw' hSw=>by(obtain⟨s0,s1,s2,s3⟩:=hSw;go_simp;try with_reducible rfl)⟩
    case hS=>assumption
    apply wpAnyH_take (i:=3)
    case hi=>rfl
    case hs=>kernel_rfl
    case hf=>kernel_rfl
    case hr=>kernel_rfl
    case hQ=>exactλ_ _ _ h=>h
    case hy=>exact Or.inl ⟨by rfl,λw' hSw=>by(obtain⟨s0,s1,s2,s3⟩:=hSw;go_simp;try with_reducible rfl)⟩
    case hS=>assumption
    apply wpAnyH_take (i:=4)
    case hi=>rfl
    case hs=>kernel_rfl
    case hf=>kernel_rfl
    case hr=>kernel_rfl
    case hQ=>exactλ_ _ _ h=>h
    case hy=>exact Or.inl ⟨by rfl,λw' hSw=>by(obtain⟨s0,s1,s2,s3⟩:=hSw;go_simp;try with_reducible rfl)⟩
    case hS=>assumption
    apply wpAnyH_take (i:=5)
    case hi=>rfl
    case hs=>kernel_rfl
    case hf=>kernel_rfl
    case hr=>kernel_rfl
    case hQ=>exactλ_ _ _ h=>h
    case hy=>exact Or.inl ⟨by rfl,λw' hSw=>by(obtain⟨s0,s1,s2,s3⟩:=hSw;go_simp;try with_reducible rfl)⟩
    case hS=>assumption
    apply wpAnyH_take (i:=6)
    case hi=>rfl
    case hs=>kernel_rfl
    case hf=>kernel_rfl
    case hr=>kernel_rfl
    case hQ=>exactλ_ _ _ h=>h
    case hy=>exact Or.inl ⟨by rfl,λw' hSw=>by(obtain⟨s0,s1,s2,s3⟩:=hSw;go_simp;try with_reducible rfl)⟩
    case hS=>assumption
    apply wpAnyH_take (i:=7)
    case hi=>rfl
    case hs=>kernel_rfl
    case hf=>kernel_rfl
    case hr=>kernel_rfl
    case hQ=>exactλ_ _ _ h=>h
    case hy=>exact Or.inl ⟨by rfl,λw' hSw=>by(obtain⟨s0,s1,s2,s3⟩:=hSw;go_simp;try with_reducible rfl)⟩
    case hS=>assumption
    refine wpAnyH_ready (rs:=[8]) (by kernel_rfl) (by simp) (AllReadyH.cons rfl (λK' hK=>?_) AllReadyH.nil)
    go_simp
    refine(KG.o _ HBB.o.drew).mono ?_
    rintro e w5 ⟨rfl,hb5⟩
    exact⟨rfl,TurnRes.no R.o ((aa HBB.o.drew hb5).mono hbase)⟩
  ·have R:=zh (mq (l:=l) hno hg)
   have KG:=zh (λW (hb:Below w.heap.size w W)=>mY base (nV tg (2*aS m.slots+4)) b v q p m (aC l) A n c W ((h.next hb).marked _) hse hg (show(0:Nat)<=_ by omega) ((ht.next hb).given))
   generalize aS m.slots=g at*
   clear hown hg hno h ht hse hti hit c1 t3 hT1 hcell
   rcases ht0 with rfl|⟨j,rfl,hj1,hjs,hr1⟩
   ·clear hjr hfl hfn hrf
    obtain⟨rA,rn,rc,sA,sn,sc,fA,fn,fc,pA,pn,pc⟩:=v
    obtain⟨x0,x1,x2,x3,x4⟩:=HX
    dsimp only at*
    subst hA
    have HBB:=zh HB1
    clear hI hD1 HB1
    go_enter func122,ntmps122
    go_wp2_with fail
    generalize (w.alloc (.cells #[.int .i64 2,.string {data:=#[]},.slice A n c] 108))=w1 at*
    have hbd:=HBB.o.drew
    go_region_law (first|(go_simp;go_at_call 84;refine(KG.o _ hbd).mono ?_;rintro e w5 ⟨rfl,v',q',hD,hv1,hv2,hv3,hTT,hbel⟩;dsimp only at hv1 hv2 hv3;obtain⟨g2,hA2,hbg,hfz,⟨y,hy⟩,hD2⟩:=hD.setRoot (k:=k) (by rw[hv2];exact hk) (g:Nat);obtain rfl:g2=b1:=(by rw[hv1]at hA2;injection hA2 with e;injection e with e;exact e.symm);have x1a:=hD.box.2.1;have x1b:=hD2.box.2.1;rw[hv1,hv2,hv3]at x1a x1b;have HD2:=zh hD2;have HBE:=zh hbel;clear hD hD2 hTT hbel))
    all_goals go_wp2_with fail
    all_goals go_end0
    all_goals exact TurnRes.yes R.o HD2.o ((((HBB.o.mono hbase).drew.trans HBE.o)).setCell (p:=⟨_,k,none⟩) hbg _)
   ·skip
    have hfn2:v.fn=v.sn:=by omega
    obtain⟨b2,o2,r,hFA,hr,c2⟩:=hjr j hjs
    rw[hr]at hr1
    clear hr hjr hfl hfn hrf
    have hrr:(r==1)=false:=by simpa using hr1
    have e2:(0:Int)<(j:Int):=by omega
    have e3:(j:Int)<(v.fn:Int):=by omega
    have e4:(0:Int)<=(j:Int):=by omega
    obtain⟨rA,rn,rc,sA,sn,sc,fA,fn,fc,pA,pn,pc⟩:=v
    obtain⟨x0,x1,x2,x3,x4⟩:=HX
    dsimp only at*
    subst hA hFA
    have HBB:=zh HB1
    clear hI hD1 HB1
    go_enter func122,ntmps122
    go_wp2_with fail
    generalize (w.alloc (.cells #[.int .i64 2,.string {data:=#[]},.slice A n c] 108))=w1 at*
    have hbd:=HBB.o.drew
    go_region_law (first|(go_simp;go_at_call 84;refine(KG.o _ hbd).mono ?_;rintro e w5 ⟨rfl,v',q',hD,hv1,hv2,hv3,hTT,hbel⟩;dsimp only at hv1 hv2 hv3;obtain⟨g2,hA2,hbg,hfz,⟨y,hy⟩,hD2⟩:=hD.setRoot (k:=k) (by rw[hv2];exact hk) (g:Nat);obtain rfl:g2=b1:=(by rw[hv1]at hA2;injection hA2 with e;injection e with e;exact e.symm);have x1a:=hD.box.2.1;have x1b:=hD2.box.2.1;rw[hv1,hv2,hv3]at x1a x1b;have HD2:=zh hD2;have HBE:=zh hbel;clear hD hD2 hTT hbel))
    all_goals go_wp2_with fail
    all_goals go_end0
    all_goals exact TurnRes.yes R.o HD2.o ((((HBB.o.mono hbase).drew.trans HBE.o)).setCell (p:=⟨_,k,none⟩) hbg _)
 rcases hrf with h0|⟨j,s,hj,hj1,hjs,_,_⟩
 ·exact hnew (lJ h0) (.inl (hit.symm.trans h0))
 ·have hjl:j<v.sn:=by have:=(zl hjs);omega
  by_cases hr:int m.refs j=1
  ·exact hown j (hj.symm.trans hit) hj1 hjl hr
  ·exact hnew (lK hj hr) (.inr ⟨j,hit.symm.trans hj,hj1,hjl,hr⟩)
end Go.Proofs.YtdbneghfbkjinaaGreatDoor
