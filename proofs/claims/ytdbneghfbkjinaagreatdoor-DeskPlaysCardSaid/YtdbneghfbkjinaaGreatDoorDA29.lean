/- Texts of the proof of deskPlays_holds: VRead. Conditions: as each text says. -/
import Derived.Test.YtdbneghfbkjinaaGreatDoorDA1
import Derived.Test.YtdbneghfbkjinaaGreatDoorDA28
set_option maxRecDepth 100000
set_option maxHeartbeats 1000000
namespace Go.Proofs.YtdbneghfbkjinaaGreatDoor
open Go.Proofs.Tryz
open Go.RowKit Sl
structure ErrC (W:World) (b:Nat):Prop where
 heap:W.heap[b]? =some (.cells #[.int .i64 0] 22 (0,0))
section
variable {W W':World} {b:Nat}
theorem ErrC.new (W:World):ErrC (W.alloc (.cells #[.int .i64 0] 22)) W.heap.size:=⟨heap_alloc_new W _⟩
theorem ErrC.lt (h:ErrC W b):b<W.heap.size:=(za h.heap)
theorem ErrC.ty (h:ErrC W b):TypeB W b 22:=⟨_,_,h.heap⟩
theorem ErrC.next (h:ErrC W b) (hb:Below W.heap.size W W'):ErrC W' b:=⟨(hb.block b h.lt).trans h.heap⟩
theorem ErrC.kept {row:Option Nat} (h:ErrC W b) (hg:W.grownBy W' row) (hn:some b≠row):ErrC W' b:=⟨(hg.block b h.lt hn).trans h.heap⟩
theorem ErrC.cell (h:ErrC W b):W.cell? ⟨b,0,none⟩=some (.int .i64 0):=cell_of_row W b 0 _ _ _ h.heap
theorem ErrC.froz (h:ErrC W b):W.frozen? ⟨b,0,none⟩=false:=frozen_of_row W b 0 _ _ h.heap
end
theorem D3 {w W:World} {ob eb base:Nat} {g:Int} {v:IV} (h:Box W ob g v) (he:ErrC W eb) (hb:Below base w W) (hl:base<=eb) (hn:eb≠ob) (u:Int):
  (W.setCell ⟨eb,0,none⟩ (.int .i64 u)).cell? ⟨ob,0,none⟩=some (.int .i64 g)/\(W.setCell ⟨eb,0,none⟩ (.int .i64 u)).cell? ⟨ob,1,none⟩=some (.slice v.rA v.rn v.rc)/\(W.setCell ⟨eb,0,none⟩ (.int .i64 u)).cell? ⟨ob,2,none⟩=some (.slice v.sA v.sn v.sc)/\
  (W.setCell ⟨eb,0,none⟩ (.int .i64 u)).cell? ⟨ob,3,none⟩=some (.slice v.fA v.fn v.fc)/\(W.setCell ⟨eb,0,none⟩ (.int .i64 u)).cell? ⟨ob,4,none⟩=some (.slice v.pA v.pn v.pc)/\(W.setCell ⟨eb,0,none⟩ (.int .i64 u)).cell? ⟨eb,0,none⟩=some (.int .i64 u)/\
  Below base w (W.setCell ⟨eb,0,none⟩ (.int .i64 u)):=by
 obtain⟨k0,k1,k2,k3,k4⟩:=h.kept (ai W eb 0 (.int .i64 u)) (λe=>hn (by injection e with e;exact e.symm))
 exact⟨k0,k1,k2,k3,k4,cell_of_row _ _ 0 _ _ _ (heap_setCell_same W eb 0 _ _ _ he.heap),hb.setCell (p:=⟨eb,0,none⟩) hl _⟩
theorem CG (ob eb:Nat) (w:World):
  CallsD prog 109 #[.pointer (some ⟨ob,0,none⟩),.pointer (some ⟨eb,0,none⟩)] .returning w λe u' w'=>e=.returned (.tuple #[])/\u'=.returning/\w'=w:=by
 refine callsD_of_wpS func109 rfl λc₀ cs hu=>?_
 apply wpS_seq
 apply wpS_region
 simp[wpOpsS,go_sem,recoverD,hu,ntmps109,Exit.thenS]
 refine wpS_cond (t:=false) (by simp[Act.eval,Array.replicate]) ?_
 simp only[Bool.false_eq_true,if_false]
 refine wpS_of_wp (wp_skip ?_)
 cases c₀
 simp_all [bodyPostS,results,results109]
theorem yT (ob eb:Nat) (older:List PanicEntry) (w:World) (g:Int) (v:IV) (hz:Box w ob g v) (hB:BoxB w ob) (he:ErrC w eb) (hn:eb≠ob):
  CallsD prog 109 #[.pointer (some ⟨ob,0,none⟩),.pointer (some ⟨eb,0,none⟩)] (.panicking ({v:=lG,recovered:=false}::older)) w λe u' w'=>e=.returned (.tuple #[])/\u'=.panicking ({v:=lG,recovered:=true}::older)/\
   w'=(((((w.setCell ⟨ob,0,none⟩ (.int .i64 0)).setCell ⟨ob,1,none⟩ (.slice none 0 0)).setCell ⟨ob,2,none⟩ (.slice none 0 0)).setCell ⟨ob,3,none⟩ (.slice none 0 0)).setCell ⟨ob,4,none⟩ (.slice none 0 0)).setCell ⟨eb,0,none⟩ (.int .i64 1):=by
 obtain⟨y0,y1,y2,y3,y4⟩:=hz
 have x0:=hB.fz 0
 have x1:=hB.fz 1
 have x2:=hB.fz 2
 have x3:=hB.fz 3
 have x4:=hB.fz 4
 have hn':ob≠eb:= λe=>hn e.symm
 have he1:=he.cell
 have hfz:=he.froz
 unfold lG
 refine callsD_of_wpS func109 rfl λc₀ cs hu=>?_
 apply wpS_seq
 apply wpS_region
 simp[wpOpsS,go_sem,recoverD,hu,ntmps109,Exit.thenS]
 refine wpS_cond (t:=true) (by simp[Act.eval,Array.replicate]) ?_
 simp only[if_true]
 apply wpS_region
 simp[wpOpsS,go_sem,y0,y1,y2,y3,y4,x0,x1,x2,x3,x4,he1,hfz]
 cases c₀
 simp_all [bodyPostS,results,results109]
structure RdS (w W:World) (v:IV) (tg:Nat->Nat) (q:List SV) (p:List PV) (m:Img) (r:List UInt8):Prop where
 own:OwnI W w.heap.size tg v q p m
 box:Box W w.heap.size m.guest v
 ty:BoxB W w.heap.size
 err:ErrC W (w.heap.size+1)
 gl:Gl W (w.heap.size+1+1) 129 r
 below:Below w.heap.size w W
section
variable {w W W':World} {v:IV} {tg:Nat->Nat} {q:List SV} {p:List PV} {m:Img} {r r':List UInt8}
theorem RdS.next (h:RdS w W v tg q p m r) (hb:Below W.heap.size W W'):RdS w W' v tg q p m r:=
 ⟨h.own.next hb,h.box.keep hb h.ty.ty.lt,h.ty.next hb,h.err.next hb,h.gl.next hb,aa h.below hb⟩
theorem RdS.drew (h:RdS w W v tg q p m r):RdS w W.drew v tg q p m r:=h.next (Below.refl _ _).drew
theorem RdS.retag {tg':Nat->Nat} (h:RdS w W v tg q p m r) (ht:∀b,b<W.heap.size->tg' b=tg b):RdS w W v tg' q p m r:=⟨h.own.retag ht,h.box,h.ty,h.err,h.gl,h.below⟩
theorem RdS.glass (h:RdS w W v tg q p m r) (hg:W.grownBy W' (some (w.heap.size+1+1))) (hG:Gl W' (w.heap.size+1+1) 129 r'):RdS w W' v tg q p m r':=
 ⟨h.own.kept hg h.gl.ty (by decide) (by decide) (by decide),h.box.kept hg (λe=>by injection e;omega),h.ty.kept hg (λe=>by injection e;omega),h.err.kept hg (λe=>by injection e;omega),hG,
  h.below.grown hg h.below.size (λk e=>by injection e;omega)⟩
theorem RdS.row (h:RdS w W v tg q p m r) (hg:W.grownBy W' (some (w.heap.size+1+1))) (hG:Gl W' (w.heap.size+1+1) 129 r') {A:Option Addr} {n c:Nat} {xs:List Int}
  (ho:W'.ownsRow W.heap.size 3 1 (.slice A n c) n (ah xs)) (hn:n<=1000000) (hc:n<=c) (hm:c<=maxLen) (t:Nat):∃tg',RdS w W' v tg' q p m r'/\TabO W' w.heap.size tg' t A n c xs:=
 ⟨_,(h.retag (tg':= λg=>if W.heap.size<=g then t else tg g) (λb hb=>if_neg (by omega))).glass hg hG,TabO.made (.inr ho) h.below.size hn hc hm⟩
theorem RdS.set (h:RdS w W v tg q p m r) (j:Nat) (u:Value) {v':IV} {m':Img} (hb:Box (W.setCell ⟨w.heap.size,j,none⟩ u) w.heap.size m'.guest v') (ho:OwnI W w.heap.size tg v' q p m'):RdS w (W.setCell ⟨w.heap.size,j,none⟩ u) v' tg q p m' r:=
 have hg:=ai W w.heap.size j u
 ⟨ho.kept hg h.ty.ty (by decide) (by decide) (by decide),hb,h.ty.set j u,h.err.kept hg (λe=>by injection e;omega),h.gl.kept hg (λe=>by injection e;omega),h.below.setCell (p:=⟨w.heap.size,j,none⟩) (Nat.le_refl _) u⟩
theorem RdS.setRoot (h:RdS w W v tg q p m r) {A:Option Addr} {n c:Nat} {xs:List Int} (ht:TabO W w.heap.size tg 0 A n c xs):
  RdS w (W.setCell ⟨w.heap.size,1,none⟩ (.slice A n c)) {v with rA:=A,rn:=n,rc:=c} tg q p {m with root:=xs} r:=by
 obtain⟨b0,b1,b2,b3,b4⟩:=h.box
 have ho:OwnI W w.heap.size tg {v with rA:=A,rn:=n,rc:=c} q p {m with root:=xs}:=⟨ht,h.own.refs,h.own.slots,h.own.sle,h.own.scap,h.own.snaps,h.own.ple,h.own.pcap,h.own.hq,h.own.hp,h.own.tabs,h.own.roots⟩
 exact h.set 1 _ (by refine⟨?_,?_,?_,?_,?_⟩<;>go_simp) ho
theorem RdS.setRefs (h:RdS w W v tg q p m r) {A:Option Addr} {n c:Nat} {xs:List Int} (ht:TabO W w.heap.size tg 1 A n c xs):
  RdS w (W.setCell ⟨w.heap.size,3,none⟩ (.slice A n c)) {v with fA:=A,fn:=n,fc:=c} tg q p {m with refs:=xs} r:=by
 obtain⟨b0,b1,b2,b3,b4⟩:=h.box
 exact h.set 3 _ (by refine⟨?_,?_,?_,?_,?_⟩<;>go_simp) (h.own.newRefs ht)
theorem RdS.setGuest (h:RdS w W v tg q p m r) (g:Int):RdS w (W.setCell ⟨w.heap.size,0,none⟩ (.int .i64 g)) v tg q p {m with guest:=g} r:=by
 obtain⟨b0,b1,b2,b3,b4⟩:=h.box
 exact h.set 0 _ (by refine⟨?_,?_,?_,?_,?_⟩<;>go_simp) (h.own.newGuest g)
theorem RdS.push (h:RdS w W v tg q p m r) (x:Slot) {A:Option Addr} {n c:Nat} (ht:TabO W w.heap.size tg (2*v.sn+4) A n c x.table) (hn:v.sn<=1000000) (hd:x.data.size<=4611686018427387903):
  ∃A2 c2 w9,(Builtin.append_ #[31,31] 31 #[.slice v.sA v.sn v.sc,.slice (some ⟨W.heap.size,0,none⟩) 1 1]).run prog (W.alloc (.cells #[.int .i64 x.kind,.string x.data,.slice A n c] 108))=.ok (.slice A2 (v.sn+1) c2) w9/\
   w9.cell? ⟨w.heap.size,2,none⟩=some (.slice v.sA v.sn v.sc)/\w9.frozen? ⟨w.heap.size,2,none⟩=false/\
   ∃q',RdS w (w9.setCell ⟨w.heap.size,2,none⟩ (.slice A2 (v.sn+1) c2)) {v with sA:=A2,sn:=v.sn+1,sc:=c2} tg q' p {m with slots:=m.slots++[x]} r:=by
 obtain⟨i0,hi0,hz0,hz1,hz2⟩:=info_parts infoSlot
 have W9:=ac W (.cells #[.int .i64 x.kind,.string x.data,.slice A n c] 108)
 obtain⟨A2,c2,w9,q1,q2,q3,q4,q5,q6,_⟩:=cK (P:=prog) W w.heap.size 31 31 108 i0 _ 3 48 underlying31 hi0 hz0 hz1 hz2 rfl (by omega) _ _ _ h.own.slots #[.int .i64 x.kind,.string x.data,.slice A n c] rfl
  (by intro u hu;simp at hu;rcases hu with rfl|rfl|rfl<;>rfl) (by omega) (by unfold maxLen;omega) h.below.size
 have h9:=h.next W9
 have O9:=h9.own.pushSlot (x:=⟨x,A,n,c⟩) q2 q6 q4 q5 hn hd (ht.next W9)
 have hne:∀(b:Nat) (T:TypeId),TypeB (W.alloc (.cells #[.int .i64 x.kind,.string x.data,.slice A n c] 108)) b T->T≠108->some b≠(Value.slice v.sA v.sn v.sc).ownBlock:= λb T hb hT e=>(hb.ne (au h9.own.slots e.symm) hT) rfl
 have nb:=hne _ _ h9.ty.ty (by decide)
 have X9:=h9.box.kept q6 nb
 have Y9:=h9.ty.kept q6 nb
 have E9:=h9.err.kept q6 (hne _ _ h9.err.ty (by decide))
 have G9:=h9.gl.kept q6 (hne _ _ h9.gl.ty (by decide))
 have L9:=(h.below).trans q3
 have hgs:=ai w9 w.heap.size 2 (.slice A2 (v.sn+1) c2)
 obtain⟨b0,b1,b2,b3,b4⟩:=X9
 refine⟨A2,c2,w9,q1,b2,Y9.fz 2,_,O9.kept hgs Y9.ty (by decide) (by decide) (by decide),?_,Y9.set 2 _,E9.kept hgs (λe=>by injection e;omega),G9.kept hgs (λe=>by injection e;omega),L9.setCell (p:=⟨w.heap.size,2,none⟩) (Nat.le_refl _) _⟩
 refine⟨?_,?_,?_,?_,?_⟩<;>go_simp
theorem RdS.pushP (h:RdS w W v tg q p m r) (x:Snap) {A:Option Addr} {n c:Nat} (ht:TabO W w.heap.size tg (2*v.pn+5) A n c x.root) (hn:v.pn<=1000000) (hd:x.name.size<=4611686018427387903):
  ∃A2 c2 w9,(Builtin.append_ #[32,32] 32 #[.slice v.pA v.pn v.pc,.slice (some ⟨W.heap.size,0,none⟩) 1 1]).run prog (W.alloc (.cells #[.string x.name,.int .i64 x.guest,.slice A n c] 102))=.ok (.slice A2 (v.pn+1) c2) w9/\
   w9.cell? ⟨w.heap.size,4,none⟩=some (.slice v.pA v.pn v.pc)/\w9.frozen? ⟨w.heap.size,4,none⟩=false/\
   ∃p',RdS w (w9.setCell ⟨w.heap.size,4,none⟩ (.slice A2 (v.pn+1) c2)) {v with pA:=A2,pn:=v.pn+1,pc:=c2} tg q p' {m with snaps:=m.snaps++[x]} r:=by
 obtain⟨i0,hi0,hz0,hz1,hz2⟩:=info_parts infoSnap
 have W9:=ac W (.cells #[.string x.name,.int .i64 x.guest,.slice A n c] 102)
 obtain⟨A2,c2,w9,q1,q2,q3,q4,q5,q6,_⟩:=cK (P:=prog) W w.heap.size 32 32 102 i0 _ 3 48 underlying32 hi0 hz0 hz1 hz2 rfl (by omega) _ _ _ h.own.snaps #[.string x.name,.int .i64 x.guest,.slice A n c] rfl
  (by intro u hu;simp at hu;rcases hu with rfl|rfl|rfl<;>rfl) (by omega) (by unfold maxLen;omega) h.below.size
 have h9:=h.next W9
 have O9:=h9.own.pushSnap (x:=⟨x,A,n,c⟩) q2 q6 q4 q5 hn hd (ht.next W9)
 have hne:∀(b:Nat) (T:TypeId),TypeB (W.alloc (.cells #[.string x.name,.int .i64 x.guest,.slice A n c] 102)) b T->T≠102->some b≠(Value.slice v.pA v.pn v.pc).ownBlock:= λb T hb hT e=>(hb.ne (au h9.own.snaps e.symm) hT) rfl
 have nb:=hne _ _ h9.ty.ty (by decide)
 have X9:=h9.box.kept q6 nb
 have Y9:=h9.ty.kept q6 nb
 have E9:=h9.err.kept q6 (hne _ _ h9.err.ty (by decide))
 have G9:=h9.gl.kept q6 (hne _ _ h9.gl.ty (by decide))
 have L9:=(h.below).trans q3
 have hgs:=ai w9 w.heap.size 4 (.slice A2 (v.pn+1) c2)
 obtain⟨b0,b1,b2,b3,b4⟩:=X9
 refine⟨A2,c2,w9,q1,b4,Y9.fz 4,_,O9.kept hgs Y9.ty (by decide) (by decide) (by decide),?_,Y9.set 4 _,E9.kept hgs (λe=>by injection e;omega),G9.kept hgs (λe=>by injection e;omega),L9.setCell (p:=⟨w.heap.size,4,none⟩) (Nat.le_refl _) _⟩
 refine⟨?_,?_,?_,?_,?_⟩<;>go_simp
end
def rdI (s:ByteArray):Img:=if s.size<=4096 then(eX (toL s)).getD aj else aj
def rdE (s:ByteArray):Int:=if s.size<=4096 then(if(eX (toL s)).isSome then 0 else 1)else 2
def tv (base:Nat) (m:Img) (er:Int) (w:World) (e:Ending) (w':World):Prop:=∃v',e=.returned (.tuple #[ae m v',.int .i64 er])/\ImgR w' w'.heap.size v' m/\Below base w w'/\(er=0->∃tg q p,OwnI w' base tg v' q p m)
theorem fV {s:ByteArray} {w W0 W:World} {v:IV} {tg:Nat->Nat} {q:List SV} {p:List PV} {m:Img} {r:List UInt8} {tmps:Array Value} (h:RdS w W0 v tg q p m r) (hg:W0.grownBy W (some (w.heap.size+1+1))) (h2:tmps[2]?.getD undef=.pointer (some ⟨w.heap.size,0,none⟩)) (h3:tmps[3]?.getD undef=.pointer (some ⟨w.heap.size+1,0,none⟩))
  (hs:s.size<=4096) (hn:eX (toL s)=none):
  bodyPostD prog Tryz.f64 (tv w.heap.size (rdI s) (rdE s) w) (.panic [{v:=lG,recovered:=false}])
   {tmps:=tmps,defers:=[{target:=.fn (.func 109) #[.pointer (some ⟨w.heap.size,0,none⟩),.pointer (some ⟨w.heap.size+1,0,none⟩)],args:=#[]}]} W:=by
 have e1:rdI s=aj:=by unfold rdI;rw[if_pos hs,hn];rfl
 have e2:rdE s=1:=by unfold rdE;rw[if_pos hs,hn];rfl
 rw[e1,e2]
 have hbx:=h.box.kept hg (λe=>by injection e;omega)
 have hty:=h.ty.kept hg (λe=>by injection e;omega)
 have her:=h.err.kept hg (λe=>by injection e;omega)
 have hbe:=h.below.grown hg h.below.size (λk e=>by injection e;omega)
 have KC:=zh (yT w.heap.size (w.heap.size+1) [] W m.guest v hbx hty her (by omega))
 have h5:=dr hty ⟨_,_,hbx⟩ 0 noV
 have hb5:=hbe.grown h5.2.2 hbe.size (λj e=>by injection e with e;omega)
 have he5:=her.kept h5.2.2 (λe=>by injection e with e;omega)
 have F6:=zh (D3 h5.1 he5 hb5 (by omega) (by omega) 1)
 dsimp only[noV]at F6
 clear h h5 hb5 he5 e1 e2 hn hbx hty her hbe hg
 refine leaves_cons (f:=109) (args:=#[.pointer (some ⟨w.heap.size,0,none⟩),.pointer (some ⟨w.heap.size+1,0,none⟩)]) (by simp) (by simp[go_sem]) ?_
 refine KC.o.mono ?_
 rintro e u' w6 ⟨rfl,rfl,e6⟩
 rw[<-e6]at F6
 obtain⟨k0,k1,k2,k3,k4,k5,hb6⟩:=F6.o
 clear e6 KC
 simp[Leaves,settle,results,results64,go_sem,h2,h3,k0,k1,k2,k3,k4,k5]
 exact⟨noV,rfl,xq _,hb6,λh=>by cases h⟩
theorem D4 {s:ByteArray} {w W:World} {v:IV} {tg:Nat->Nat} {q:List SV} {p:List PV} {m:Img} {r:List UInt8} {tmps:Array Value} (h:RdS w W v tg q p m r) (h2:tmps[2]?.getD undef=.pointer (some ⟨w.heap.size,0,none⟩)) (h3:tmps[3]?.getD undef=.pointer (some ⟨w.heap.size+1,0,none⟩))
  (hs:s.size<=4096) (hn:eX (toL s)=some m):
  bodyPostD prog Tryz.f64 (tv w.heap.size (rdI s) (rdE s) w) .ret
   {tmps:=tmps,defers:=[{target:=.fn (.func 109) #[.pointer (some ⟨w.heap.size,0,none⟩),.pointer (some ⟨w.heap.size+1,0,none⟩)],args:=#[]}]} W:=by
 have e1:rdI s=m:=by unfold rdI;rw[if_pos hs,hn];rfl
 have e2:rdE s=0:=by unfold rdE;rw[if_pos hs,hn];rfl
 rw[e1,e2]
 have KI:=zh (CG w.heap.size (w.heap.size+1) W)
 obtain⟨k0,k1,k2,k3,k4⟩:=h.box
 have k5:=h.err.cell
 have hO:=h.own
 have hb:=h.below
 clear h e1 e2 hn
 refine leaves_cons (f:=109) (args:=#[.pointer (some ⟨w.heap.size,0,none⟩),.pointer (some ⟨w.heap.size+1,0,none⟩)]) (by simp) (by simp[go_sem]) ?_
 refine KI.o.mono ?_
 rintro e u' w6 ⟨rfl,rfl,rfl⟩
 simp[Leaves,settle,results,results64,go_sem,h2,h3,k0,k1,k2,k3,k4,k5]
 exact⟨v,rfl,hO.imgR,hb,λ_=>⟨_,_,_,hO⟩⟩
section
variable {w W W':World} {v:IV} {tg:Nat->Nat} {q:List SV} {p:List PV} {m:Img} {r:List UInt8}
theorem yU (w:World) (s:ByteArray):RdS w (((w.alloc (.cells #[.int .i64 0,.slice none 0 0,.slice none 0 0,.slice none 0 0,.slice none 0 0] 34)).alloc (.cells #[.int .i64 0] 22)).alloc (.cells #[.string s] 129)) noV (λ_=>0) [] [] aj (toL s):=by
 have Z:=ZB.new w
 have B1:=ac w (.cells #[.int .i64 0,.slice none 0 0,.slice none 0 0,.slice none 0 0,.slice none 0 0] 34)
 have s1:(w.alloc (.cells #[.int .i64 0,.slice none 0 0,.slice none 0 0,.slice none 0 0,.slice none 0 0] 34)).heap.size=w.heap.size+1:=World.size_alloc _ _
 generalize w.alloc (.cells #[.int .i64 0,.slice none 0 0,.slice none 0 0,.slice none 0 0,.slice none 0 0] 34)=w1 at*
 have E2:=ErrC.new w1
 have B2:=ac w1 (.cells #[.int .i64 0] 22)
 have s2:(w1.alloc (.cells #[.int .i64 0] 22)).heap.size=w1.heap.size+1:=World.size_alloc _ _
 rw[s1]at E2
 generalize w1.alloc (.cells #[.int .i64 0] 22)=w2 at*
 have B3:=ac w2 (.cells #[.string s] 129)
 have G3:=heap_alloc_new w2 (.cells #[.string s] 129)
 have e2:w2.heap.size=w.heap.size+1+1:=by omega
 rw[e2]at G3
 have Z3:=(Z.next B2).next B3
 exact⟨⟨TabO.nil.retag (λ_ _=>rfl),TabO.nil,World.ownsRow_nil _ _ _ _,Nat.le_refl _,by decide,World.ownsRow_nil _ _ _ _,Nat.le_refl _,by decide,rfl,rfl,λk x h=>by simp at h,λk x h=>by simp at h⟩,
  Z3.cells,Z3.box.1,E2.next B3,⟨by rw[cW];exact G3⟩,aa (aa B1 B2) B3⟩
theorem RdS.other (h:RdS w W v tg q p m r) {b:Nat} (hT:TypeB W b 102) (hn:(Value.slice v.pA v.pn v.pc).ownBlock≠some b) (hb:w.heap.size+1+1<b) (j:Nat) (u:Value):RdS w (W.setCell ⟨b,j,none⟩ u) v tg q p m r:=
 have hg:=ai W b j u
 ⟨h.own.keptAt hg hT (by decide) (λe=>(hT.ne (au h.own.slots e) (by decide)) rfl) hn,h.box.kept hg (λe=>by injection e;omega),h.ty.kept hg (λe=>by injection e;omega),h.err.kept hg (λe=>by injection e;omega),h.gl.kept hg (λe=>by injection e;omega),h.below.setCell (p:=⟨b,j,none⟩) (show w.heap.size<=b by omega) u⟩
theorem RdS.rowB (h:RdS w W v tg q p m r) (hb:Below W.heap.size W W') {A:Option Addr} {n c:Nat} {xs:List Int} (ho:W'.ownsRow W.heap.size 3 1 (.slice A n c) n (ah xs)) (hn:n<=1000000) (hc:n<=c) (hm:c<=maxLen) (t:Nat):
  ∃tg',RdS w W' v tg' q p m r/\TabO W' w.heap.size tg' t A n c xs:=
 ⟨_,(h.retag (tg':= λg=>if W.heap.size<=g then t else tg g) (λb hb=>if_neg (by omega))).next hb,TabO.made (.inr ho) h.below.size hn hc hm⟩
theorem RdS.same (h:RdS w W v tg q p m r):RdS w ((((((W.setCell ⟨w.heap.size,0,none⟩ (.int .i64 m.guest)).setCell ⟨w.heap.size,1,none⟩ (.slice v.rA v.rn v.rc)).setCell ⟨w.heap.size,2,none⟩ (.slice v.sA v.sn v.sc)).setCell ⟨w.heap.size,3,none⟩ (.slice v.fA v.fn v.fc)).setCell ⟨w.heap.size,4,none⟩ (.slice v.pA v.pn v.pc)).setCell ⟨w.heap.size+1,0,none⟩ (.int .i64 0)) v tg q p m r:=by
 have h5:=dr h.ty ⟨_,_,h.box⟩ m.guest v
 have hn:some (w.heap.size+1)≠some w.heap.size:= λe=>by injection e;omega
 have hm:some (w.heap.size+1+1)≠some w.heap.size:= λe=>by injection e;omega
 have E5:=h.err.kept h5.2.2 hn
 have G5:=h.gl.kept h5.2.2 hm
 have O5:=h.own.kept h5.2.2 h.ty.ty (by decide) (by decide) (by decide)
 have B5:=h.below.grown h5.2.2 h.below.size (λk e=>by injection e;omega)
 generalize (((((W.setCell ⟨w.heap.size,0,none⟩ (.int .i64 m.guest)).setCell ⟨w.heap.size,1,none⟩ (.slice v.rA v.rn v.rc)).setCell ⟨w.heap.size,2,none⟩ (.slice v.sA v.sn v.sc)).setCell ⟨w.heap.size,3,none⟩ (.slice v.fA v.fn v.fc)).setCell ⟨w.heap.size,4,none⟩ (.slice v.pA v.pn v.pc))=W5 at*
 have hg:=ai W5 (w.heap.size+1) 0 (.int .i64 0)
 have n1:some w.heap.size≠some (w.heap.size+1):= λe=>by injection e;omega
 have n2:some (w.heap.size+1+1)≠some (w.heap.size+1):= λe=>by injection e;omega
 exact⟨O5.kept hg E5.ty (by decide) (by decide) (by decide),h5.1.kept hg n1,h5.2.1.kept hg n1,⟨heap_setCell_same W5 (w.heap.size+1) 0 _ _ _ E5.heap⟩,G5.kept hg n2,B5.setCell (p:=⟨w.heap.size+1,0,none⟩) (show w.heap.size<=w.heap.size+1 by omega) _⟩
end
theorem gV {P:Program} {fn:Func} {R:Ending->World->Prop} {t t':Array Value} (h:results fn t=results fn t'):∀(ds:List Deferred) (u:FrameMode) (w:World),Leaves P fn t R ds u w->Leaves P fn t' R ds u w
 |[],.returning,w,⟨v,h1,h2⟩=>⟨v,by rw[<-h];exact h1,h2⟩
 |[],.panicking _,_,hl=>hl
 |[],.run,_,hl=>hl
 |d::ds,u,w,⟨h1,fv,cap,f,args,h2,h3,h4⟩=>⟨h1,fv,cap,f,args,h2,h3,h4.mono λe u' w' hh=>by
   cases e with
   |returned v=>exact gV h ds _ _ hh
   |panicked c=>exact gV h ds _ _ hh
   |outgrown=>exact hh⟩
theorem vF (t:Array Value) (k:Nat) (hk:3<k) (x:Value):results Tryz.f64 (t.setIfInBounds k x)=results Tryz.f64 t:=by
 simp[results,results64,Array.getElem?_setIfInBounds,show¬k=2 by omega,show¬k=3 by omega]
theorem rd_hQ {R:Ending->World->Prop} {k:Nat} {x:Value} (hk:3<k) {c:List PanicEntry} {a:Act} {w:World} (h:bodyPostD prog Tryz.f64 R (.panic c) (a.put (some k) x) w):bodyPostD prog Tryz.f64 R (.panic c) a w:=
 gV (vF a.tmps k hk x) a.defers _ _ h
theorem DO (s:ByteArray) (w:World) (hs:s.size<=4096):Calls prog 64 #[.string s] w (tv w.heap.size (rdI s) (rdE s) w):=by
 have hmf:∀(fn:Fn) (first cap:Array Value) (w:World),(Instr.makeFunc fn first cap).run prog w=.ok (.func fn first cap) w:= λ_ _ _ _=>rfl
 have S3:=zh (yU w s)
 have hsz:(s.size:Int)<=4096:=by omega
 have hlen:(toL s).length=s.size:=bv s
 go_enter_defers func64,ntmps64
 go_wp2_with fail
 generalize (((w.alloc (.cells #[.int .i64 0,.slice none 0 0,.slice none 0 0,.slice none 0 0,.slice none 0 0] 34)).alloc (.cells #[.int .i64 0] 22)).alloc (.cells #[.string s] 129))=W3 at*
 have K1:=zh (io _ _ W3 S3.o.gl)
 generalize hl:toL s=l at*
 rcases l with _|⟨g1,l1⟩
 ·refine K1.o.mono ?_
  rintro e w4 ⟨rfl,hg⟩
  exact fV S3.o hg rfl rfl hs (by rw[hl];rfl)
 ·refine K1.o.mono ?_
  rintro e w4 ⟨⟨v1,rfl,rfl⟩,hG,hg⟩
  have h4:=S3.o.glass hg hG
  obtain⟨b0,b1,b2,b3,b4⟩:=h4.box
  have y0:=h4.ty.fz 0
  have S4:=zh (h4.setGuest (g1.toNat:Int))
  dsimp only[aj,noV]at b0 b1 b2 b3 b4 S4
  clear h4 hG hg K1 S3
  go_wp2_with fail
  generalize w4.setCell ⟨w.heap.size,0,none⟩ (.int .i64 (g1.toNat:Int))=W4 at*
  clear b0 b1 b2 b3 b4 y0
  have K2:=zh (io _ _ W4 S4.o.gl)
  rcases l1 with _|⟨n1,l2⟩
  ·refine K2.o.mono ?_
   rintro e w5 ⟨rfl,hg⟩
   exact fV S4.o hg rfl rfl hs (by rw[hl];rfl)
  ·refine K2.o.mono ?_
   rintro e w5 ⟨⟨v2,rfl,rfl⟩,hG,hg⟩
   have S5:=zh (S4.o.glass hg hG)
   clear hG hg K2 S4
   have hn1:=n1.toNat_lt
   generalize hN:n1.toNat=n at*
   go_wp2_with fail
   go_loopw [21] (λi wr=>∃(j c:Nat) (A:Option Addr) (tg:Nat->Nat) (q:List SV) (ss:List Slot) (r:List UInt8),j<=n/\i=.int .i64 j/\fg cR j l2=some (ss,r)/\RdS w wr ⟨none,0,0,A,j,c,none,0,0,none,0,0⟩ tg q [] ⟨(g1.toNat:Int),[],ss,[],[]⟩ r) (λi _=>n-(intOf i).toNat)
   case atStart=>exact⟨0,0,none,_,_,[],l2,Nat.zero_le _,rfl,rfl,S5.o⟩
   case round=>
    obtain⟨j,c,A,tg,q,ss,r,hjn,rfl,hit,hS⟩:=hrel
    have HS:=zh hS
    clear hS S5
    by_cases hlt:j<n
    ·have e0:(0:Int)<=(j:Int):=by omega
     have e1:(j:Int)<(n:Int):=by omega
     have K8:=zh (yq _ _ wr.drew HS.o.drew.gl)
     go_wp2_with fail
     refine eS (λW'=>W'.cell? ⟨w.heap.size,2,none⟩=some (.slice A j c)/\True) 7 ?_
     have hSS:wr.drew.cell? ⟨w.heap.size,2,none⟩=some (.slice A j c)/\True:=⟨HS.o.drew.box.2.2.1,trivial⟩
     refine zgo 0 ?_
     refine zgo 1 ?_
     refine zgo 2 ?_
     clear hSS
     refine aP 3 λK' hK=>?_
     go_simp
     cases hp:cR r with
     |none=>
      rw[hp]at K8
      refine K8.o.mono ?_
      rintro e w7 ⟨rfl,hg⟩
      exact fV HS.o.drew hg rfl rfl hs (by rw[hl];exact sm (by rw[hN];exact pE hit hp hlt))
     |some y=>
      obtain⟨x,r'⟩:=y
      rw[hp]at K8
      have hx4:=yc hp
      have hxd:=uO hp
      have hit2:=pD hit hp
      refine K8.o.mono ?_
      rintro e w7 ⟨⟨v7,rfl,tA,tc,rfl,ho,h1,h2⟩,hG,hg⟩
      obtain⟨tg',S7,T7⟩:=HS.o.drew.row hg hG ho (by omega) h1 h2 (2*j+4)
      obtain⟨A2,c2,w9,q1,q2,q3,q',S9⟩:=S7.push x T7 (by show j<=_;omega) (by omega)
      dsimp only at q1 q2 S9
      have HR:=zh q1
      have M7:=zh (show w7.cell? ⟨w.heap.size,2,none⟩=some (.slice A j c)/\True from⟨S7.box.2.2.1,trivial⟩)
      have M8:=zh (show(w7.alloc (.cells #[.int .i64 x.kind,.string x.data,.slice tA x.table.length tc] 108)).cell? ⟨w.heap.size,2,none⟩=some (.slice A j c)/\True from⟨(S7.next (ac w7 _)).box.2.2.1,trivial⟩)
      have H9:=zh S9
      clear K8 HS S7 T7 ho h1 h2 hG hg q1 S9
      refine hK.o _ _ (λ_=>M7.o) ?_
      clear hK
      refine aP 4 λK' hK=>?_
      go_simp
      refine hK.o _ _ (λ_=>M8.o) ?_
      clear hK
      refine aP 5 λK' hK=>?_
      refine yp rfl _ _ _ _ _ rfl rfl rfl rfl HR.o ?_
      refine hK.o _ _ (λ_=>⟨q2,trivial⟩) ?_
      clear hK
      refine aP 6 λK' hK=>?_
      go_simp
      refine hK.o _ _ (λ_=>⟨q2,trivial⟩) ?_
      clear hK
      refine aP 7 λK' hK=>?_
      go_simp
      refine hK.nx ?_
      clear hK
      refine cT ?_
      go_wp2_with fail
      go_roundw
      case rel=>exact⟨j+1,c2,A2,tg',q',ss++[x],r',by omega,by go_num,hit2,H9.o⟩
      case measure=>simp[intOf];omega
    ·obtain rfl:j=n:=by omega
     clear hjn
     go_wp2_with fail
     have K2:=zh (io _ _ wr HS.o.gl)
     rcases r with _|⟨k1,l3⟩
     ·refine K2.o.mono ?_
      rintro e w5 ⟨rfl,hg⟩
      exact fV HS.o hg rfl rfl hs (by rw[hl];exact yb (by rw[hN];exact hit))
     ·refine K2.o.mono ?_
      rintro e w5 ⟨⟨v5,rfl,rfl⟩,hG,hg⟩
      have S5:=zh (HS.o.glass hg hG)
      clear hG hg K2 HS hlt
      have hk1:=k1.toNat_lt
      generalize hM:k1.toNat=k at*
      go_wp2_with fail
      go_loopw [33] (λi wr=>∃(y d:Nat) (B:Option Addr) (tg:Nat->Nat) (q:List SV) (p:List PV) (ps:List Snap) (r:List UInt8),y<=k/\i=.int .i64 y/\fg eW y l3=some (ps,r)/\RdS w wr ⟨none,0,0,A,j,c,none,0,0,B,y,d⟩ tg q p ⟨(g1.toNat:Int),[],ss,[],ps⟩ r) (λi _=>k-(intOf i).toNat)
      case atStart=>exact⟨0,0,none,_,_,_,[],l3,Nat.zero_le _,rfl,rfl,S5.o⟩
      case round=>
       obtain⟨y,d,B,tg,q,p,ps,r,hyk,rfl,hit3,hS⟩:=hrel
       have HS:=zh hS
       clear hS S5
       by_cases hlt:y<k
       ·have e0:(0:Int)<=(y:Int):=by omega
        have e1:(y:Int)<(k:Int):=by omega
        have no:= λ(hp:eW r=none)=>(show eX (toL s)=none from by rw[hl];exact so (by rw[hN];exact hit) (by rw[hM];exact pE hit3 hp hlt))
        have NO:=zh no
        clear no
        go_wp2_with fail
        have K2:=zh (io _ _ wr HS.o.gl)
        rcases r with _|⟨b,r1⟩
        ·refine K2.o.mono ?_
         rintro e w5 ⟨rfl,hg⟩
         exact fV HS.o hg rfl rfl hs (NO.o sq)
        refine K2.o.mono ?_
        rintro e w5 ⟨⟨v5,rfl,rfl⟩,hG,hg⟩
        have S5:=zh (HS.o.glass hg hG)
        clear hG hg K2 HS
        have hb1:=b.toNat_lt
        go_wp2_with fail
        have K3':=jX _ _ b.toNat w5 S5.o.gl (by omega)
        by_cases hbr:b.toNat<=r1.length
        case neg=>
         rw[show lB b.toNat r1=none from if_neg hbr]at K3'
         refine K3'.mono ?_
         rintro e w6 ⟨rfl,hg⟩
         exact fV S5.o hg rfl rfl hs (NO.o (su hbr))
        rw[show lB b.toNat r1=some (r1.take b.toNat,r1.drop b.toNat)from if_pos hbr]at K3'
        have K3:=zh K3'
        clear K3'
        refine K3.o.mono ?_
        rintro e w6 ⟨⟨v6,rfl,rfl⟩,hG,hg⟩
        have S6:=S5.o.glass hg hG
        have B7:=ac w6 (.cells #[.string (ofL (r1.take b.toNat)),.int .i64 0,.slice none 0 0] 102)
        have X7:=heap_alloc_new w6 (.cells #[.string (ofL (r1.take b.toNat)),.int .i64 0,.slice none 0 0] 102)
        have S7:=zh (S6.next B7)
        have hxb:w.heap.size+1+1<w6.heap.size:=S6.gl.ty.lt
        have hne:(Value.slice B y d).ownBlock≠some w6.heap.size:= λe=>by have:=(S6.own.snaps.lt _ e).2;omega
        have hns:(ofL (r1.take b.toNat)).size<=1000:=by rw[aT,List.length_take];omega
        have PS:= λ(g:UInt8) (r':List UInt8) (h2:r1.drop b.toNat=g::r') (h3:bm g.toNat<=r'.length)=>uP hbr h2 h3
        have N2:= λ(h2:r1.drop b.toNat=[])=>sv hbr h2
        have N3:= λ(g:UInt8) (r':List UInt8) (h2:r1.drop b.toNat=g::r') (h3:¬bm g.toNat<=r'.length)=>sw hbr h2 h3
        have s7:(w6.alloc (.cells #[.string (ofL (r1.take b.toNat)),.int .i64 0,.slice none 0 0] 102)).heap.size=w6.heap.size+1:=World.size_alloc _ _
        clear B7 S6 hG hg K3 S5
        generalize ofL (r1.take b.toNat)=nm at*
        generalize r1.drop b.toNat=r2 at*
        go_wp2_with fail
        generalize w6.alloc (.cells #[.string nm,.int .i64 0,.slice none 0 0] 102)=w7 at*
        have K4:=zh (io _ _ w7 S7.o.gl)
        rcases r2 with _|⟨gx,r3⟩
        ·refine K4.o.mono ?_
         rintro e w8 ⟨rfl,hg⟩
         exact fV S7.o hg rfl rfl hs (NO.o (N2 rfl))
        refine K4.o.mono ?_
        rintro e w8 ⟨⟨v8,rfl,rfl⟩,hG,hg⟩
        have PS:=PS gx r3 rfl
        have N3:=N3 gx r3 rfl
        have S8:=S7.o.glass hg hG
        have X8:=(hg.block w6.heap.size (by omega) (λe=>by injection e;omega)).trans X7
        have x1:=cell_of_row _ _ 1 _ _ _ X8
        have f1:=frozen_of_row _ _ 1 _ _ X8
        have S9:=zh (S8.other (b:=w6.heap.size) ⟨_,_,X8⟩ hne hxb 1 (.int .i64 (gx.toNat:Int)))
        have X9:=heap_setCell_same w8 w6.heap.size 1 _ _ (.int .i64 (gx.toNat:Int)) X8
        have hgx:=gx.toNat_lt
        clear hG hg K4 S7 S8 X7 X8 N2
        go_wp2_with fail
        have x9:=cell_of_row _ _ 1 _ _ _ X9
        clear x1 f1
        generalize w8.setCell ⟨w6.heap.size,1,none⟩ (.int .i64 (gx.toNat:Int))=w9 at*
        simp only[List.getElem?_toArray,List.getElem?_cons_zero,List.getElem?_cons_succ,List.setIfInBounds_toArray,List.set_cons_succ,List.set_cons_zero]at x9 X9
        have K5':=pK _ _ gx.toNat w9 S9.o.gl (by omega)
        go_wp2_with fail
        by_cases hw4:bm gx.toNat<=r3.length
        case neg=>
         rw[show jq (bm gx.toNat) r3=none from if_neg hw4]at K5'
         refine K5'.mono ?_
         rintro e w10 ⟨rfl,hg⟩
         exact fV S9.o hg rfl rfl hs (NO.o (N3 hw4))
        rw[show jq (bm gx.toNat) r3=some ((r3.take (bm gx.toNat)).map eo,r3.drop (bm gx.toNat))from if_pos hw4]at K5'
        have K5:=zh K5'
        have PS:=zh (pD hit3 (PS hw4))
        have hx5:((r3.take (bm gx.toNat)).map eo).length<=1000:=by rw[List.length_map,List.length_take];unfold bm;omega
        clear K5' hw4 N3
        generalize (r3.take (bm gx.toNat)).map eo=xs at*
        generalize r3.drop (bm gx.toNat)=r4 at*
        refine K5.o.mono ?_
        rintro e w10 ⟨⟨v10,rfl,tA,tc,rfl,ho,h1,h2⟩,hG,hg⟩
        obtain⟨tg',S10,T10⟩:=S9.o.row hg hG ho (by omega) h1 h2 (2*y+5)
        have X10:=(hg.block w6.heap.size (za X9) (λe=>by injection e;omega)).trans X9
        have x2:=cell_of_row _ _ 2 _ _ _ X10
        have f2:=frozen_of_row _ _ 2 _ _ X10
        have S11:=zh (S10.other (b:=w6.heap.size) ⟨_,_,X10⟩ hne hxb 2 (.slice tA xs.length tc))
        have T11:=T10.kept (ai w10 w6.heap.size 2 (.slice tA xs.length tc)) (λb' e _=>.inl ⟨_,by injection e with e;subst e;exact⟨_,_,X10⟩,by decide⟩)
        have X11:=heap_setCell_same w10 w6.heap.size 2 _ _ (.slice tA xs.length tc) X10
        clear hG hg K5 S9 S10 T10 X9 X10 ho h1 h2 x9
        go_upto_region 15 with fail
        clear x2 f2
        generalize w10.setCell ⟨w6.heap.size,2,none⟩ (.slice tA xs.length tc)=w11 at*
        simp only[List.setIfInBounds_toArray,List.set_cons_succ,List.set_cons_zero]at X11
        have c0:=cell_of_row _ _ 0 _ _ _ X11
        have c1:=cell_of_row _ _ 1 _ _ _ X11
        have c2:=cell_of_row _ _ 2 _ _ _ X11
        simp only[List.getElem?_toArray,List.getElem?_cons_zero,List.getElem?_cons_succ]at c0 c1 c2
        obtain⟨A2,c3,w12,q1,q2,q3,p',S12⟩:=S11.o.pushP ⟨nm,(gx.toNat:Int),xs⟩ T11 (by show y<=_;omega) (by show nm.size<=_;omega)
        dsimp only at q1 q2 S12
        obtain⟨b0,b1,b2,b3,b4⟩:=S11.o.box
        dsimp only at b0 b1 b2 b3 b4
        have HR:=zh q1
        have H12:=zh S12
        clear q1 S12 T11 S11 X11
        go_wp2_with (at_builtin;refine aA rfl _ _ _ _ rfl rfl rfl rfl HR.o ?_)
        go_roundw
        case rel=>exact⟨y+1,c3,A2,tg',q,p',ps++[⟨nm,(gx.toNat:Int),xs⟩],r4,by omega,by go_num,PS.o,H12.o⟩
        case measure=>simp[intOf];omega
       ·obtain rfl:y=k:=by omega
        clear hyk
        obtain⟨b0,b1,b2,b3,b4⟩:=HS.o.box
        dsimp only at b0 b1 b2 b3 b4
        have hg1:=g1.toNat_lt
        have K5':=pK _ _ g1.toNat wr HS.o.gl (by omega)
        go_wp2_with fail
        by_cases hw4:bm g1.toNat<=r.length
        case neg=>
         rw[show jq (bm g1.toNat) r=none from if_neg hw4]at K5'
         refine K5'.mono ?_
         rintro e w10 ⟨rfl,hg⟩
         exact fV HS.o hg rfl rfl hs (by rw[hl];exact uN (by rw[hN];exact hit) (by rw[hM];exact hit3) hw4)
        rw[show jq (bm g1.toNat) r=some ((r.take (bm g1.toNat)).map eo,r.drop (bm g1.toNat))from if_pos hw4]at K5'
        have K5:=zh K5'
        have AT:=zh (Aq (by rw[hN];exact hit) (by rw[hM];exact hit3) hw4 rfl)
        rw[<-hl]at AT
        have hx5:((r.take (bm g1.toNat)).map eo).length<=1000:=by rw[List.length_map,List.length_take];unfold bm;omega
        have hjl:=Ap hit
        rw[hjl]at AT
        clear K5' hw4 hl hit hit3 hlt hM hN
        generalize (r.take (bm g1.toNat)).map eo=xs at*
        generalize r.drop (bm g1.toNat)=r4 at*
        refine K5.o.mono ?_
        rintro e w10 ⟨⟨v10,rfl,tA,tc,rfl,ho,h1,h2⟩,hG,hg⟩
        obtain⟨tg',S10,T10⟩:=HS.o.row hg hG ho (by omega) h1 h2 0
        have S11:=zh (S10.setRoot T10)
        clear b0 b1 b2 b3 b4
        obtain⟨b0,b1,b2,b3,b4⟩:=S10.box
        dsimp only at b0 b1 b2 b3 b4 S11
        have y1:=S10.ty.fz 1
        clear hG hg K5 HS T10 S10 ho h1 h2
        go_upto_region 18 with fail
        clear b0 b1 b2 b3 b4 y1
        generalize w10.setCell ⟨w.heap.size,1,none⟩ (.slice tA xs.length tc)=w11 at*
        have hmk:= λW=>dQ j (by omega) W
        obtain⟨b0,b1,b2,b3,b4⟩:=S11.o.box
        dsimp only at b0 b1 b2 b3 b4
        have B12:=ac w11 (.cells (ah (List.replicate j 0)).toArray 3)
        obtain⟨tg2,S12,T12⟩:=S11.o.rowB B12 (cQ (base:=w11.heap.size) (n:=j) (heap_alloc_new w11 (.cells (ah (List.replicate j 0)).toArray 3)) (Nat.le_refl _) (by simp[ah]) (by unfold maxLen;omega)) (by omega) (Nat.le_refl _) (by unfold maxLen;omega) 1
        have S13:=zh (S12.setRefs T12)
        dsimp only at S13
        have k3:=S12.box.2.2.2.1
        have y3:=S12.ty.fz 3
        dsimp only at k3
        clear S12 T12 B12 S11
        go_upto_region 19 with fail
        clear b0 b1 b2 b3 b4 k3 y3 hmk
        generalize (w11.alloc (.cells (ah (List.replicate j 0)).toArray 3)).setCell ⟨w.heap.size,3,none⟩ (.slice (some ⟨w11.heap.size,0,none⟩) j j)=w13 at*
        have KC':=sG _ _ w13 S13.o.own.imgR
        dsimp only at KC'
        have KC:=zh KC'
        have HCL:=zh (show aB ⟨(g1.toNat:Int),xs,ss,List.replicate j 0,ps⟩=0->(oM ⟨(g1.toNat:Int),xs,ss,List.replicate j 0,ps⟩)=aM ⟨(g1.toNat:Int),xs,ss,List.replicate j 0,ps⟩fromλh=>by unfold oM;rw[if_pos h])
        have HLN:=zh (show(oM ⟨(g1.toNat:Int),xs,ss,List.replicate j 0,ps⟩).length<=j from by
         unfold oM
         split
         ·rw[cO];exact Nat.le_of_eq hjl
         ·exact Nat.zero_le _)
        clear KC'
        obtain⟨b0,b1,b2,b3,b4⟩:=S13.o.box
        dsimp only at b0 b1 b2 b3 b4
        generalize hE:aB ⟨(g1.toNat:Int),xs,ss,List.replicate j 0,ps⟩=er at*
        generalize hCN:oM ⟨(g1.toNat:Int),xs,ss,List.replicate j 0,ps⟩=cn at*
        go_wp2_with fail
        refine KC.o.mono ?_
        rintro e w14 ⟨lA,ln,lc,rfl,ho,hb,h1,h2⟩
        have hln:cn.length=ln:=by have:=ho.1;simpa[ah]using this
        have hln2:=HLN.o
        obtain⟨tg3,S14,T14⟩:=S13.o.rowB hb ho (by omega) h1 h2 1
        clear b0 b1 b2 b3 b4
        have HS:=zh S14
        have HT:=zh T14
        have cg:=S14.gl.cell
        clear KC S13 S14 T14 ho hb h1 h2 HLN hln hln2
        by_cases he:er=0
        case neg=>
         have he':(er !=0)=true:=by simpa using he
         go_wp2_with fail
         exact fV HS.o (World.grownBy.refl _ _) rfl rfl hs (by rw[AT.o,if_neg (λhh=>he hh.1)])
        rw[he]at HCL
        subst he
        by_cases hr4:r4=[]
        case neg=>
         have hr5:(ofL r4).toList.isEmpty=false:=by
          cases hh:(ofL r4).toList with
          |nil=>exact absurd (by rw[<-aZ r4];exact xe hh) hr4
          |cons _ _=>rfl
         generalize ofL r4=s4 at*
         go_wp2_with fail
         exact fV HS.o (World.grownBy.refl _ _) rfl rfl hs (by rw[AT.o,if_neg (λhh=>hr4 hh.2.1)])
        subst hr4
        have hr5:=jT
        have HCN:=HCL.o rfl
        generalize ofL []=s4 at*
        have S15:=zh (HS.o.setRefs HT.o)
        dsimp only at S15
        have k3:=HS.o.box.2.2.2.1
        have y3:=HS.o.ty.fz 3
        dsimp only at k3
        clear HS HT HCL
        go_upto_region 23 with fail
        clear k3 y3 cg hr5
        generalize w14.setCell ⟨w.heap.size,3,none⟩ (.slice lA ln lc)=w15 at*
        have KC':=bq _ _ w15 S15.o.own.imgR
        dsimp only at KC'
        have KC:=zh KC'
        have AT2:=zh (show eX (toL s)=if ab ⟨(g1.toNat:Int),xs,ss,cn,ps⟩=0 then some ⟨(g1.toNat:Int),xs,ss,cn,ps⟩else none from by
         have hw:ep ⟨(g1.toNat:Int),xs,ss,List.replicate j 0,ps⟩=⟨(g1.toNat:Int),xs,ss,cn,ps⟩:=by rw[HCN];rfl
         have A:=AT.o
         rw[hw]at A
         by_cases hh:ab ⟨(g1.toNat:Int),xs,ss,cn,ps⟩=0
         ·rw[A,if_pos (by simp[hh]),if_pos hh]
         ·rw[A,if_neg (by simp[hh]),if_neg hh])
        clear AT KC' hE HCN hCN
        obtain⟨b0,b1,b2,b3,b4⟩:=S15.o.box
        dsimp only at b0 b1 b2 b3 b4
        generalize ab ⟨(g1.toNat:Int),xs,ss,cn,ps⟩=er2 at*
        go_wp2_with fail
        refine KC.o.mono ?_
        rintro e w16 ⟨rfl,hb⟩
        have S16:=zh (S15.o.next hb)
        clear b0 b1 b2 b3 b4 KC hb S15
        by_cases he:er2=0
        case neg=>
         have he':(er2 !=0)=true:=by simpa using he
         go_wp2_with fail
         exact fV S16.o (World.grownBy.refl _ _) rfl rfl hs (by rw[AT2.o,if_neg he])
        subst he
        have S17:=zh S16.o.same
        dsimp only at S17
        obtain⟨b0,b1,b2,b3,b4⟩:=S16.o.box
        dsimp only at b0 b1 b2 b3 b4
        have y0:=S16.o.ty.fz 0
        have y1:=S16.o.ty.fz 1
        have y2:=S16.o.ty.fz 2
        have y3:=S16.o.ty.fz 3
        have y4:=S16.o.ty.fz 4
        have c5:=S16.o.err.cell
        have f5:=S16.o.err.froz
        clear S16
        go_wp2_with fail
        exact D4 S17.o rfl rfl hs (by rw[AT2.o];simp)
theorem CH (s:ByteArray) (w:World) (hs:4096<s.size):Calls prog 64 #[.string s] w (tv w.heap.size (rdI s) (rdE s) w):=by
 have e1:=zh (show rdI s=aj from by unfold rdI;rw[if_neg (by omega)])
 have e2:=zh (show rdE s=2 from by unfold rdE;rw[if_neg (by omega)])
 have B1:=ac w (.cells #[.int .i64 0,.slice none 0 0,.slice none 0 0,.slice none 0 0,.slice none 0 0] 34)
 have Z1:=ZB.new w
 have s1:(w.alloc (.cells #[.int .i64 0,.slice none 0 0,.slice none 0 0,.slice none 0 0,.slice none 0 0] 34)).heap.size=w.heap.size+1:=World.size_alloc _ _
 have B2:=ac (w.alloc (.cells #[.int .i64 0,.slice none 0 0,.slice none 0 0,.slice none 0 0,.slice none 0 0] 34)) (.cells #[.int .i64 2] 22)
 have c2:=cell_of_row _ _ 0 _ _ _ (heap_alloc_new (w.alloc (.cells #[.int .i64 0,.slice none 0 0,.slice none 0 0,.slice none 0 0,.slice none 0 0] 34)) (.cells #[.int .i64 2] 22))
 rw[s1]at c2
 obtain⟨b0,b1,b2,b3,b4⟩:=(Z1.next B2).cells
 have hb:=aa B1 B2
 have hsz:(4096:Int)<(s.size:Int):=by omega
 clear B1 B2 Z1 hs
 go_enter_defers func64,ntmps64
 go_wp2_with fail
 generalize ((w.alloc (.cells #[.int .i64 0,.slice none 0 0,.slice none 0 0,.slice none 0 0,.slice none 0 0] 34)).alloc (.cells #[.int .i64 2] 22))=W at*
 simp only[List.getElem?_toArray,List.getElem?_cons_zero]at c2
 rw[e1.o,e2.o]
 exact⟨.tuple #[.agg #[.int .i64 0,.slice none 0 0,.slice none 0 0,.slice none 0 0,.slice none 0 0],.int .i64 2],by simp[results,results64,go_sem,b0,b1,b2,b3,b4,c2],noV,rfl,xq _,hb,λh=>by cases h⟩
theorem Bj (s:ByteArray) (w:World):Calls prog 64 #[.string s] w (tv w.heap.size (rdI s) (rdE s) w):=by
 by_cases hs:s.size<=4096
 ·exact DO s w hs
 ·exact CH s w (by omega)
end Go.Proofs.YtdbneghfbkjinaaGreatDoor
