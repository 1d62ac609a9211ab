/- Texts of the proof of deskPlays_holds: OwnP. Conditions: as each text says. -/
import Derived.Test.YtdbneghfbkjinaaGreatDoorDA1
import Derived.Test.YtdbneghfbkjinaaGreatDoorDA15
set_option maxRecDepth 100000
set_option maxHeartbeats 1000000
namespace Go.Proofs.YtdbneghfbkjinaaGreatDoor
section
open Go.Proofs.Tryz
open Go.RowKit Sl
def BoxG (w:World) (b:Nat) (T:TypeId):Prop:=∃cur,w.heap[b]? =some (.cells cur T (0,0))
section
variable {w w':World} {b:Nat} {T:TypeId}
theorem BoxG.ty (h:BoxG w b T):TypeB w b T:=by obtain⟨c,e⟩:=h;exact⟨c,_,e⟩
theorem BoxG.fz (h:BoxG w b T) (k:Nat):w.frozen? ⟨b,k,none⟩=false:=by obtain⟨c,e⟩:=h;exact frozen_of_row w b k c _ e
theorem BoxG.next (h:BoxG w b T) (hb:Below w.heap.size w w'):BoxG w' b T:=by obtain⟨c,e⟩:=h;exact⟨c,(hb.block b (za e)).trans e⟩
theorem BoxG.set (h:BoxG w b T) (k:Nat) (u:Value):BoxG (w.setCell ⟨b,k,none⟩ u) b T:=by obtain⟨c,e⟩:=h;exact⟨_,heap_setCell_same w b k c _ _ e⟩
theorem BoxG.kept {row:Option Nat} (h:BoxG w b T) (hg:w.grownBy w' row) (hn:some b≠row):BoxG w' b T:=by obtain⟨c,e⟩:=h;exact⟨c,(hg.block b (za e) hn).trans e⟩
theorem BoxG.new (w:World) (cs:Array Value) (T:TypeId):BoxG (w.alloc (.cells cs T)) w.heap.size T:=⟨cs,heap_alloc_new w _⟩
end
theorem sI (T:TypeId) (hT1:T≠3) (hT2:T≠108) (hT3:T≠102) (b base:Nat) (tg:Nat->Nat) (v:IV) (q:List SV) (p:List PV) (m:Img) (w:World) (h:OwnI w base tg v q p m) (hx:Box w b m.guest v) (hBB:BoxG w b T) (hb:base<=b) (hc:CBd m) (hw:Wired m):
  Calls prog 118 #[.pointer (some ⟨b,0,none⟩)] w λe w'=>e=.returned (.tuple #[])/\ ∃v' tg' q',Box w' b m.guest v'/\OwnI w' base tg' v' q' p (ap m)/\BoxG w' b T/\Below base w w':=by
 have K1:=zh (iK v m w h.imgR hc hw)
 have hcl:=cO m
 have hsn:v.sn=m.slots.length:=h.imgR.slen.symm
 obtain⟨sb,hsA,hsb,hsl⟩:=bK h.slots (by have:=hc.one;omega)
 have h40:=hc.slots
 obtain⟨rA,rn,rc,sA,sn,sc,fA,fn,fc,pA,pn,pc⟩:=v
 obtain⟨b0,b1,b2,b3,b4⟩:=hx
 dsimp only at*
 subst hsn
 subst hsA
 have HO:=zh h
 have hT:=hBB.ty
 have hbw:base<=w.heap.size:=by have:=hT.lt;omega
 unfold ap
 generalize aM m=cs at*
 have HCL:=zh hcl
 clear h hc hw hcl
 generalize hln:m.slots.length=ln at*
 have HLN:=zh hln
 clear hln
 go_enter func118,ntmps118
 go_wp2_with fail
 refine K1.o.mono ?_
 rintro e w1 ⟨A,c,rfl,ho,hb1,hc1,hc2⟩
 have hTy1:=hT.next hb1
 have hBB1:=hBB.next hb1
 have b0':=(hb1.cell (p:=⟨b,0,none⟩) hT.lt).trans b0
 have b1':=(hb1.cell (p:=⟨b,1,none⟩) hT.lt).trans b1
 have b2':=(hb1.cell (p:=⟨b,2,none⟩) hT.lt).trans b2
 have b3':=(hb1.cell (p:=⟨b,3,none⟩) hT.lt).trans b3
 have b4':=(hb1.cell (p:=⟨b,4,none⟩) hT.lt).trans b4
 have hf':=hBB1.fz 3
 go_wp2_with fail
 have hgs:=ai w1 b 3 (.slice A ln c)
 have hO1:OwnI w1 base (λg=>if w.heap.size<=g then 1 else tg g) ⟨rA,rn,rc,some ⟨sb,0,none⟩,ln,sc,A,ln,c,pA,pn,pc⟩ q p {m with refs:=cs}:=
  ((HO.o.retag (tg':= λg=>if w.heap.size<=g then 1 else tg g) (λb' hb'=>by simp;omega)).next hb1).newRefs ⟨hc1,⟨by omega,by unfold maxLen at hc2;omega⟩,.inr ⟨bL ho hbw,λg hg=>if_pos (ho.lt g hg).1⟩⟩
 have hO2:=hO1.kept hgs hTy1 hT1 hT2 hT3
 have hX2:Box (w1.setCell ⟨b,3,none⟩ (.slice A ln c)) b m.guest ⟨rA,rn,rc,some ⟨sb,0,none⟩,ln,sc,A,ln,c,pA,pn,pc⟩:=by
  refine⟨?_,?_,?_,?_,?_⟩<;>go_simp
 have hBB2:=hBB1.set 3 (.slice A ln c)
 have hB2:=((hb1.mono hbw).setCell (p:=⟨b,3,none⟩) hb (.slice A ln c))
 generalize (λg=>if w.heap.size<=g then 1 else tg g)=tg' at*
 have HO2:=zh hO2
 clear hO1 hO2 b0' b1' b2' b3' b4' hf' hgs ho hTy1
 generalize w1.setCell ⟨b,3,none⟩ (.slice A ln c)=w2 at*
 go_loopw [16] (λi wr=>∃k:Nat,k<=ln/\i=.int .i64 k/\OwnI wr base tg' ⟨rA,rn,rc,some ⟨sb,0,none⟩,ln,sc,A,ln,c,pA,pn,pc⟩ (dF freeSV q cs k) p {m with refs:=cs,slots:=dF freeSlot m.slots cs k}/\Box wr b m.guest ⟨rA,rn,rc,some ⟨sb,0,none⟩,ln,sc,A,ln,c,pA,pn,pc⟩/\BoxG wr b T/\Below base w wr) (λi _=>ln-(intOf i).toNat)
 case atStart=>exact⟨0,Nat.zero_le _,rfl,by rw[eZ,eZ];exact HO2.o,hX2,hBB2,hB2⟩
 case round=>
  obtain⟨k,hk,rfl,ho,hx,hT,hbw'⟩:=hrel
  obtain⟨b0,b1,b2,b3,b4⟩:=hx
  dsimp only at b0 b1 b2 b3 b4
  have HOr:=zh ho
  clear ho
  by_cases hlt:k<ln
  ·obtain⟨b5,o5,r,rfl,hb5,hx5,c5⟩:=HOr.o.refs.rd.at1 hlt
   have HI:=zh (bG hx5)
   clear hx5
   cases hr:(r==0)
   ·go_wp2_with fail
    go_roundw
    case rel=>exact⟨k+1,by omega,by go_num,by rw[ie _ _ _ _ (by rw[HI.o];simpa using hr),ie _ _ _ _ (by rw[HI.o];simpa using hr)];exact HOr.o,⟨b0,b1,b2,b3,b4⟩,hT,hbw'⟩
    case measure=>simp[intOf];omega
   ·have hs:=HOr.o.slots
    have x0:=hs.cellAt (k*3) (by dsimp only;omega)
    have x1:=hs.cellAt (k*3+1) (by dsimp only;omega)
    have x2:=hs.cellAt (k*3+2) (by dsimp only;omega)
    have f0:=hs.frozenAt (k*3)
    have f1:=hs.frozenAt (k*3+1)
    have f2:=hs.frozenAt (k*3+2)
    have hkq:k<(dF freeSV q cs k).length:=by have:=HOr.o.qlen;dsimp only at this;omega
    have hq:=List.getElem?_eq_getElem hkq
    generalize (dF freeSV q cs k)[k]=xk at hq
    have y0:=av SV.cells SV.cells_len _ k xk hq 0 (by omega)
    rw[Nat.add_zero]at y0
    rw[y0]at x0
    rw[av SV.cells SV.cells_len _ k xk hq 1 (by omega)]at x1
    rw[av SV.cells SV.cells_len _ k xk hq 2 (by omega)]at x2
    simp only[SV.cells,bE,List.getElem?_cons_zero,List.getElem?_cons_succ]at x0 x1 x2
    obtain⟨n1,n2⟩:=HOr.o.set3 (x':=freeSV) rfl hq (by decide) (TabO.nil)
    clear hs y0
    go_wp2_with fail
    go_roundw
    case rel=>
     have hz:int cs k=0:=by have:=HI.o;rw[show r=0 from by simpa using hr]at this;exact this
     have hne:some b≠some sb:= λe=>hT.ty.ne (au HOr.o.slots (b:=sb) rfl) hT2 (by injection e)
     exact⟨k+1,by omega,by go_num,by rw[gj _ _ _ _ hz,gj _ _ _ _ hz];exact n1,(show Box wr b m.guest _ from⟨b0,b1,b2,b3,b4⟩).kept n2 hne,hT.kept n2 hne,hbw'.grown n2 (by have:=hbw'.size;omega) (λj e=>by injection e with e;omega)⟩
    case measure=>simp[intOf];omega
  ·obtain rfl:k=ln:=by omega
   go_wp2_with fail
   go_end0
   exact⟨rfl,⟨rA,rn,rc,some ⟨sb,0,none⟩,k,sc,A,k,c,pA,pn,pc⟩,tg',_,⟨b0,b1,b2,b3,b4⟩,HOr.o,hT,hbw'⟩
end
section
open Go.Proofs.Tryz
open Go.RowKit Sl
theorem infoSlot:(prog.info? 108).map (λi=>(i.zero,i.size,i.bytes))=some (some (.agg #[.int .i64 0,.string {data:=#[]},.slice none 0 0]),3,48):=by kernel_rfl
theorem infoSnap:(prog.info? 102).map (λi=>(i.zero,i.size,i.bytes))=some (some (.agg #[.string {data:=#[]},.int .i64 0,.slice none 0 0]),3,48):=by kernel_rfl
theorem Di (q:List SV):∀u∈q.flatMap SV.cells,u.oneCell'=true:=by
 intro u hu
 obtain⟨x,_,hx⟩:=List.mem_flatMap.1 hu
 simp only[SV.cells,bE,List.mem_cons,List.not_mem_nil,or_false]at hx
 rcases hx with rfl|rfl|rfl<;>rfl
theorem AH (q:List PV):∀u∈q.flatMap PV.cells,u.oneCell'=true:=by
 intro u hu
 obtain⟨x,_,hx⟩:=List.mem_flatMap.1 hu
 simp only[PV.cells,List.mem_cons,List.not_mem_nil,or_false]at hx
 rcases hx with rfl|rfl|rfl<;>rfl
theorem eN (xs:List Int):∀u∈ah xs,u.oneCell'=true:=by
 intro u hu
 obtain⟨x,_,rfl⟩:=List.mem_map.1 hu
 rfl
theorem vg (A:Option Addr) (n c:Nat) (cs:List Value) (w:World) (h:Rd w w.heap.size 3 A n cs) (h1:∀u∈cs,u.oneCell'=true) (hn:n<=1000000):
  Calls prog 132 #[.slice A n c] w (dJ w.heap.size 108 3 n cs w):=by
 obtain⟨i0,hi0,hz0,hz1,hz2⟩:=info_parts infoSlot
 have he:= λ(W:World)=>Lib.run_eql_slice_nil (P:=prog) W 31 108 A n c 0 0 underlying31
 cases A with
 |none=>
  have hn0:n=0:=by
   rcases Nat.eq_zero_or_pos n with h0|h0
   ·exact h0
   ·obtain⟨b,o,h,_⟩:=h.2 h0
    cases h
  subst hn0
  have hcs:cs=[]:=List.eq_nil_of_length_eq_zero (by simpa using h.1)
  subst hcs
  go_enter func132,ntmps132
  go_wp2_with fail
  go_ret
  exact⟨_,_,rfl,World.ownsRow_nil _ _ _ _,Below.refl _ _,Nat.le_refl _,by simp⟩
 |some a=>
  obtain⟨A',c',w',hrun,hown,hb,hc1,hc2,hg,_⟩:=gO (P:=prog) (w.alloc (.cells #[] 108)) w.heap.size 31 31 108 i0 _ 3 48 underlying31 hi0 hz0 hz1 hz2 rfl (by omega) _ 0 []
   (mW w _ _ _ (Nat.le_refl _)) w.heap.size (some a) n c cs (h.below ((Below.refl _ _).alloc (Nat.le_refl _) _) (Nat.le_refl _)) h1 (by omega) (by unfold maxLen;omega) (by simp)
  rw[Nat.zero_add]at hrun hown hc1
  rw[List.nil_append]at hown
  go_enter func132,ntmps132
  have HR:=zh hrun
  clear hrun
  go_wp2_with (at_builtin;refine aA rfl _ _ _ _ rfl rfl rfl rfl HR.o ?_)
  go_ret
  exact⟨_,_,rfl,hown,((Below.refl _ _).alloc (Nat.le_refl _) _).trans hb,hc1,hc2⟩
theorem vh (A:Option Addr) (n c:Nat) (cs:List Value) (w:World) (h:Rd w w.heap.size 3 A n cs) (h1:∀u∈cs,u.oneCell'=true) (hn:n<=1000000):
  Calls prog 133 #[.slice A n c] w (dJ w.heap.size 102 3 n cs w):=by
 obtain⟨i0,hi0,hz0,hz1,hz2⟩:=info_parts infoSnap
 have he:= λ(W:World)=>Lib.run_eql_slice_nil (P:=prog) W 32 102 A n c 0 0 underlying32
 cases A with
 |none=>
  have hn0:n=0:=by
   rcases Nat.eq_zero_or_pos n with h0|h0
   ·exact h0
   ·obtain⟨b,o,h,_⟩:=h.2 h0
    cases h
  subst hn0
  have hcs:cs=[]:=List.eq_nil_of_length_eq_zero (by simpa using h.1)
  subst hcs
  go_enter func133,ntmps133
  go_wp2_with fail
  go_ret
  exact⟨_,_,rfl,World.ownsRow_nil _ _ _ _,Below.refl _ _,Nat.le_refl _,by simp⟩
 |some a=>
  obtain⟨A',c',w',hrun,hown,hb,hc1,hc2,hg,_⟩:=gO (P:=prog) (w.alloc (.cells #[] 102)) w.heap.size 32 32 102 i0 _ 3 48 underlying32 hi0 hz0 hz1 hz2 rfl (by omega) _ 0 []
   (mW w _ _ _ (Nat.le_refl _)) w.heap.size (some a) n c cs (h.below ((Below.refl _ _).alloc (Nat.le_refl _) _) (Nat.le_refl _)) h1 (by omega) (by unfold maxLen;omega) (by simp)
  rw[Nat.zero_add]at hrun hown hc1
  rw[List.nil_append]at hown
  go_enter func133,ntmps133
  have HR:=zh hrun
  clear hrun
  go_wp2_with (at_builtin;refine aA rfl _ _ _ _ rfl rfl rfl rfl HR.o ?_)
  go_ret
  exact⟨_,_,rfl,hown,((Below.refl _ _).alloc (Nat.le_refl _) _).trans hb,hc1,hc2⟩
structure PartI (w0 w:World) (base:Nat) (tg:Nat->Nat) (v:IV) (q:List SV) (p:List PV) (m:Img) (k l:Nat):Prop where
 root:TabO w base tg 0 v.rA v.rn v.rc m.root
 refs:TabO w base tg 1 v.fA v.fn v.fc m.refs
 slots:w.ownsRow base 108 3 (.slice v.sA v.sn v.sc) v.sn (q.flatMap SV.cells)
 sle:v.sn<=v.sc
 scap:v.sn<=4611686018427387903/\v.sc<=9223372036854775807
 snaps:w.ownsRow base 102 3 (.slice v.pA v.pn v.pc) v.pn (p.flatMap PV.cells)
 ple:v.pn<=v.pc
 pcap:v.pn<=4611686018427387903/\v.pc<=9223372036854775807
 hq:q.map (·.s)=m.slots
 hp:p.map (·.s)=m.snaps
 tabs:∀(j:Nat) (x:SV),q[j]? =some x->x.s.data.size<=4611686018427387903/\(j<k->TabO w base tg (2*j+4) x.A x.n x.c x.s.table)/\(k<=j->SlotV w0 w0.heap.size x.s x.A x.n x.c)
 roots:∀(j:Nat) (x:PV),p[j]? =some x->x.s.name.size<=4611686018427387903/\(j<l->TabO w base tg (2*j+5) x.A x.n x.c x.s.root)/\(l<=j->SnapV w0 w0.heap.size x.s x.A x.n x.c)
section
variable {w0 w w':World} {base k l:Nat} {tg tg':Nat->Nat} {v:IV} {q:List SV} {p:List PV} {m:Img}
theorem PartI.next (h:PartI w0 w base tg v q p m k l) (hb:Below w.heap.size w w'):PartI w0 w' base tg v q p m k l:=
 ⟨h.root.next hb,h.refs.next hb,aI h.slots hb,h.sle,h.scap,aI h.snaps hb,h.ple,h.pcap,h.hq,h.hp,λj x hx=>⟨(h.tabs j x hx).1,λhj=>((h.tabs j x hx).2.1 hj).next hb,(h.tabs j x hx).2.2⟩,λj x hx=>⟨(h.roots j x hx).1,λhj=>((h.roots j x hx).2.1 hj).next hb,(h.roots j x hx).2.2⟩⟩
theorem PartI.retag (h:PartI w0 w base tg v q p m k l) (ht:∀b,b<w.heap.size->tg' b=tg b):PartI w0 w base tg' v q p m k l:=
 ⟨h.root.retag ht,h.refs.retag ht,h.slots,h.sle,h.scap,h.snaps,h.ple,h.pcap,h.hq,h.hp,λj x hx=>⟨(h.tabs j x hx).1,λhj=>((h.tabs j x hx).2.1 hj).retag ht,(h.tabs j x hx).2.2⟩,λj x hx=>⟨(h.roots j x hx).1,λhj=>((h.roots j x hx).2.1 hj).retag ht,(h.roots j x hx).2.2⟩⟩
theorem PartI.qlen (h:PartI w0 w base tg v q p m k l):q.length=v.sn:=by have:=h.slots.1;rw[aO _ SV.cells_len]at this;omega
theorem PartI.plen (h:PartI w0 w base tg v q p m k l):p.length=v.pn:=by have:=h.snaps.1;rw[aO _ PV.cells_len]at this;omega
theorem PartI.own (h:PartI w0 w base tg v q p m k l) (hk:v.sn<=k) (hl:v.pn<=l):OwnI w base tg v q p m:=
 ⟨h.root,h.refs,h.slots,h.sle,h.scap,h.snaps,h.ple,h.pcap,h.hq,h.hp,λj x hx=>⟨(h.tabs j x hx).1,(h.tabs j x hx).2.1 (by have:=(zl hx);have:=h.qlen;omega)⟩,
  λj x hx=>⟨(h.roots j x hx).1,(h.roots j x hx).2.1 (by have:=(zl hx);have:=h.plen;omega)⟩⟩
theorem PartI.setTab (h:PartI w0 w base tg v q p m k l) {b:Nat} {x:SV} (hA:v.sA=some ⟨b,0,none⟩) (hx:q[k]? =some x) {A:Option Addr} {n c:Nat} (ht:TabO w base tg (2*k+4) A n c x.s.table):
  PartI w0 (w.setCell ⟨b,k*3+2,none⟩ (.slice A n c)) base tg v (q.set k ⟨x.s,A,n,c⟩) p m (k+1) l/\w.grownBy (w.setCell ⟨b,k*3+2,none⟩ (.slice A n c)) (some b):=by
 have h0:=h.slots
 have hT:TypeB w b 108:=au h.slots (by rw[hA];rfl)
 rw[hA]at h0
 obtain⟨o1,hg⟩:=h0.stored (k*3+2) (.slice A n c)
 rw[pq SV.cells SV.cells_len q k x ⟨x.s,A,n,c⟩ hx 2 (by omega) _ rfl]at o1
 rw[<-hA]at o1
 have ht':∀b',some b=some b'->b'<w.heap.size->∀t,(∃T,TypeB w b' T/\T≠3)\/tg b'≠t:= λb' e _ t=>by injection e with e;subst e;exact .inl ⟨_,hT,by decide⟩
 refine⟨⟨h.root.kept hg λb' e hl=>ht' b' e hl _,h.refs.kept hg λb' e hl=>ht' b' e hl _,o1,h.sle,h.scap,h.snaps.kept hg (bH h.snaps hT (by decide)),h.ple,h.pcap,?_,h.hp,λj y hy=>?_,λj y hy=>⟨(h.roots j y hy).1,λhj=>((h.roots j y hy).2.1 hj).kept hg λb' e hl=>ht' b' e hl _,(h.roots j y hy).2.2⟩⟩,hg⟩
 ·rw[List.map_set,<-h.hq]
  apply List.ext_getElem?
  intro i
  rw[List.getElem?_set]
  split
  ·rename_i e
   subst e
   rw[List.getElem?_map,hx,List.length_map]
   split
   ·rfl
   ·rename_i hn;exact absurd (zl hx) hn
  ·rfl
 ·rw[List.getElem?_set]at hy
  split at hy
  ·rename_i e
   subst e
   split at hy
   ·injection hy with hy;subst hy;exact⟨(h.tabs _ x hx).1,λ_=>ht.kept hg λb' e hl=>ht' b' e hl _,λhh=>absurd hh (by omega)⟩
   ·cases hy
  ·rename_i hne
   exact⟨(h.tabs j y hy).1,λhj=>((h.tabs j y hy).2.1 (by omega)).kept hg λb' e hl=>ht' b' e hl _,λhj=>(h.tabs j y hy).2.2 (by omega)⟩
theorem PartI.setRoot (h:PartI w0 w base tg v q p m k l) {b:Nat} {x:PV} (hA:v.pA=some ⟨b,0,none⟩) (hx:p[l]? =some x) {A:Option Addr} {n c:Nat} (ht:TabO w base tg (2*l+5) A n c x.s.root):
  PartI w0 (w.setCell ⟨b,l*3+2,none⟩ (.slice A n c)) base tg v q (p.set l ⟨x.s,A,n,c⟩) m k (l+1)/\w.grownBy (w.setCell ⟨b,l*3+2,none⟩ (.slice A n c)) (some b):=by
 have h0:=h.snaps
 have hT:TypeB w b 102:=au h.snaps (by rw[hA];rfl)
 rw[hA]at h0
 obtain⟨o1,hg⟩:=h0.stored (l*3+2) (.slice A n c)
 rw[pq PV.cells PV.cells_len p l x ⟨x.s,A,n,c⟩ hx 2 (by omega) _ rfl]at o1
 rw[<-hA]at o1
 have ht':∀b',some b=some b'->b'<w.heap.size->∀t,(∃T,TypeB w b' T/\T≠3)\/tg b'≠t:= λb' e _ t=>by injection e with e;subst e;exact .inl ⟨_,hT,by decide⟩
 refine⟨⟨h.root.kept hg λb' e hl=>ht' b' e hl _,h.refs.kept hg λb' e hl=>ht' b' e hl _,h.slots.kept hg (bH h.slots hT (by decide)),h.sle,h.scap,o1,h.ple,h.pcap,h.hq,?_,λj y hy=>⟨(h.tabs j y hy).1,λhj=>((h.tabs j y hy).2.1 hj).kept hg λb' e hl=>ht' b' e hl _,(h.tabs j y hy).2.2⟩,λj y hy=>?_⟩,hg⟩
 ·rw[List.map_set,<-h.hp]
  apply List.ext_getElem?
  intro i
  rw[List.getElem?_set]
  split
  ·rename_i e
   subst e
   rw[List.getElem?_map,hx,List.length_map]
   split
   ·rfl
   ·rename_i hn;exact absurd (zl hx) hn
  ·rfl
 ·rw[List.getElem?_set]at hy
  split at hy
  ·rename_i e
   subst e
   split at hy
   ·injection hy with hy;subst hy;exact⟨(h.roots _ x hx).1,λ_=>ht.kept hg λb' e hl=>ht' b' e hl _,λhh=>absurd hh (by omega)⟩
   ·cases hy
  ·rename_i hne
   exact⟨(h.roots j y hy).1,λhj=>((h.roots j y hy).2.1 (by omega)).kept hg λb' e hl=>ht' b' e hl _,λhj=>(h.roots j y hy).2.2 (by omega)⟩
end
end
section
open Go.Proofs.Tryz
open Go.RowKit Sl
section
variable {w w':World} {base:Nat} {tg:Nat->Nat} {v:IV} {q:List SV} {p:List PV} {m:Img}
theorem gR {e T:TypeId} {size size' n n' base':Nat} {v v2:Value} {xs ys:List Value} (h:w.ownsRow base e size v n xs) (h2:w.ownsRow base' T size' v2 n' ys) (hne:T≠e):v.ownBlock=none\/v.ownBlock≠v2.ownBlock:=by
 cases hb:v2.ownBlock with
 |none=>
  cases hv:v.ownBlock with
  |none=>exact .inl rfl
  |some b=>exact .inr (by simp)
 |some b=>exact bH h (au h2 hb) hne
theorem TabO.far {t n c n' size' base':Nat} {A:Option Addr} {xs:List Int} {T:TypeId} {v2:Value} {ys:List Value} (h:TabO w base tg t A n c xs) (h2:w.ownsRow base' T size' v2 n' ys) (hne:T≠3) (hg:w.grownBy w' v2.ownBlock):TabO w' base tg t A n c xs:=
 ⟨h.1,h.2.1,h.2.2.imp id λ⟨ho,ht⟩=>⟨ho.kept hg (gR ho h2 hne),ht⟩⟩
theorem OwnI.pushSlot (h:OwnI w base tg v q p m) {x:SV} {A:Option Addr} {c:Nat} (ho:w'.ownsRow base 108 3 (.slice A (v.sn+1) c) (v.sn+1) (q.flatMap SV.cells++x.cells)) (hg:w.grownBy w' (Value.slice v.sA v.sn v.sc).ownBlock)
  (hc:v.sn+1<=c) (hm:c<=maxLen) (hn:v.sn<=1000000) (hd:x.s.data.size<=4611686018427387903) (ht:TabO w base tg (2*v.sn+4) x.A x.n x.c x.s.table):
  OwnI w' base tg {v with sA:=A,sn:=v.sn+1,sc:=c} (q++[x]) p {m with slots:=m.slots++[x.s]}:=by
 have hs:=h.slots
 have hq:=h.qlen
 refine⟨h.root.far hs (by decide) hg,h.refs.far hs (by decide) hg,?_,hc,⟨by show v.sn+1<=_;omega,by unfold maxLen at hm;show c<=_;omega⟩,h.snaps.kept hg (gR h.snaps hs (by decide)),h.ple,h.pcap,?_,h.hp,λj y hy=>?_,λj y hy=>⟨(h.roots j y hy).1,(h.roots j y hy).2.far hs (by decide) hg⟩⟩
 ·rw[List.flatMap_append,List.flatMap_cons,List.flatMap_nil,List.append_nil];exact ho
 ·rw[List.map_append,h.hq];rfl
 ·rw[List.getElem?_append]at hy
  split at hy
  ·exact⟨(h.tabs j y hy).1,(h.tabs j y hy).2.far hs (by decide) hg⟩
  ·rename_i hge
   have hj:j=v.sn:=by
    rcases Nat.lt_or_ge (j-q.length) 1 with h1|h1
    ·omega
    ·rw[List.getElem?_eq_none (by simpa using h1)]at hy;cases hy
   subst hj
   rw[hq,Nat.sub_self]at hy
   simp only[List.getElem?_cons_zero,Option.some.injEq]at hy
   subst hy
   exact⟨hd,ht.far hs (by decide) hg⟩
theorem OwnI.pushSnap (h:OwnI w base tg v q p m) {x:PV} {A:Option Addr} {c:Nat} (ho:w'.ownsRow base 102 3 (.slice A (v.pn+1) c) (v.pn+1) (p.flatMap PV.cells++x.cells)) (hg:w.grownBy w' (Value.slice v.pA v.pn v.pc).ownBlock)
  (hc:v.pn+1<=c) (hm:c<=maxLen) (hn:v.pn<=1000000) (hd:x.s.name.size<=4611686018427387903) (ht:TabO w base tg (2*v.pn+5) x.A x.n x.c x.s.root):
  OwnI w' base tg {v with pA:=A,pn:=v.pn+1,pc:=c} q (p++[x]) {m with snaps:=m.snaps++[x.s]}:=by
 have hs:=h.snaps
 have hq:=h.plen
 refine⟨h.root.far hs (by decide) hg,h.refs.far hs (by decide) hg,h.slots.kept hg (gR h.slots hs (by decide)),h.sle,h.scap,?_,hc,⟨by show v.pn+1<=_;omega,by unfold maxLen at hm;show c<=_;omega⟩,h.hq,?_,λj y hy=>⟨(h.tabs j y hy).1,(h.tabs j y hy).2.far hs (by decide) hg⟩,λj y hy=>?_⟩
 ·rw[List.flatMap_append,List.flatMap_cons,List.flatMap_nil,List.append_nil];exact ho
 ·rw[List.map_append,h.hp];rfl
 ·rw[List.getElem?_append]at hy
  split at hy
  ·exact⟨(h.roots j y hy).1,(h.roots j y hy).2.far hs (by decide) hg⟩
  ·rename_i hge
   have hj:j=v.pn:=by
    rcases Nat.lt_or_ge (j-p.length) 1 with h1|h1
    ·omega
    ·rw[List.getElem?_eq_none (by simpa using h1)]at hy;cases hy
   subst hj
   rw[hq,Nat.sub_self]at hy
   simp only[List.getElem?_cons_zero,Option.some.injEq]at hy
   subst hy
   exact⟨hd,ht.far hs (by decide) hg⟩
theorem OwnI.keptAt (h:OwnI w base tg v q p m) {b:Nat} {T:TypeId} (hg:w.grownBy w' (some b)) (hT:TypeB w b T) (h1:T≠3) (h2:(Value.slice v.sA v.sn v.sc).ownBlock≠some b) (h3:(Value.slice v.pA v.pn v.pc).ownBlock≠some b):OwnI w' base tg v q p m:=by
 have ht:∀b',some b=some b'->b'<w.heap.size->∀t,(∃T,TypeB w b' T/\T≠3)\/tg b'≠t:= λb' e _ t=>by injection e with e;subst e;exact .inl ⟨T,hT,h1⟩
 exact⟨h.root.kept hg λb' e hl=>ht b' e hl _,h.refs.kept hg λb' e hl=>ht b' e hl _,h.slots.kept hg (.inr h2),h.sle,h.scap,h.snaps.kept hg (.inr h3),h.ple,h.pcap,h.hq,h.hp,
  λk x hx=>⟨(h.tabs k x hx).1,(h.tabs k x hx).2.kept hg λb' e hl=>ht b' e hl _⟩,λk x hx=>⟨(h.roots k x hx).1,(h.roots k x hx).2.kept hg λb' e hl=>ht b' e hl _⟩⟩
theorem OwnI.lower {b:Nat} (h:OwnI w base tg v q p m) (hb:b<=base):OwnI w b tg v q p m:=by
 have ht:∀{t n c:Nat} {A:Option Addr} {xs:List Int},TabO w base tg t A n c xs->TabO w b tg t A n c xs:= λh=>⟨h.1,h.2.1,h.2.2.imp id λ⟨ho,e⟩=>⟨bL ho hb,e⟩⟩
 exact⟨ht h.root,ht h.refs,bL h.slots hb,h.sle,h.scap,bL h.snaps hb,h.ple,h.pcap,h.hq,h.hp,λk x hx=>⟨(h.tabs k x hx).1,ht (h.tabs k x hx).2⟩,λk x hx=>⟨(h.roots k x hx).1,ht (h.roots k x hx).2⟩⟩
theorem TabO.made {W W':World} {t n c:Nat} {A:Option Addr} {xs:List Int} (h:(n=0/\xs=[]/\c=0)\/W'.ownsRow W.heap.size 3 1 (.slice A n c) n (ah xs)) (hb:base<=W.heap.size) (hn:n<=1000000) (hc:n<=c) (hm:c<=maxLen):
  TabO W' base (λg=>if W.heap.size<=g then t else tg g) t A n c xs:=
 ⟨hc,⟨by omega,by unfold maxLen at hm;omega⟩,h.imp (λhh=>⟨hh.1,hh.2.1,.inr hh.2.2⟩) λho=>⟨bL ho hb,λg e=>if_pos (ho.lt g e).1⟩⟩
end
end
end Go.Proofs.YtdbneghfbkjinaaGreatDoor
