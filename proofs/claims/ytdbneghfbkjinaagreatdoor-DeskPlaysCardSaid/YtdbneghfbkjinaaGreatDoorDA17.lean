/- Texts of the proof of deskPlays_holds: OwnT. Conditions: as each text says. -/
import Derived.Test.YtdbneghfbkjinaaGreatDoorDA1
import Derived.Test.YtdbneghfbkjinaaGreatDoorDA16
set_option maxRecDepth 100000
set_option maxHeartbeats 4000000
namespace Go.Proofs.YtdbneghfbkjinaaGreatDoor
open Go.Proofs.Tryz
open Go.RowKit Sl
theorem pI {wa W:World} {k b' j:Nat} {a b c d f u:Value} (hlt:k<wa.heap.size) (ho:wa.heap.size<=b')
  (h:W.cell? ⟨k,0,none⟩=some a/\W.cell? ⟨k,1,none⟩=some b/\W.cell? ⟨k,2,none⟩=some c/\W.cell? ⟨k,3,none⟩=some d/\W.cell? ⟨k,4,none⟩=some f/\Below wa.heap.size wa W):
  (W.setCell ⟨b',j,none⟩ u).cell? ⟨k,0,none⟩=some a/\(W.setCell ⟨b',j,none⟩ u).cell? ⟨k,1,none⟩=some b/\(W.setCell ⟨b',j,none⟩ u).cell? ⟨k,2,none⟩=some c/\(W.setCell ⟨b',j,none⟩ u).cell? ⟨k,3,none⟩=some d/\(W.setCell ⟨b',j,none⟩ u).cell? ⟨k,4,none⟩=some f/\Below wa.heap.size wa (W.setCell ⟨b',j,none⟩ u):=
 po hlt ((Below.refl _ _).setCell (p:=⟨b',j,none⟩) ho u) h
structure ZB (W:World) (b:Nat):Prop where
 heap:W.heap[b]? =some (.cells #[.int .i64 0,.slice none 0 0,.slice none 0 0,.slice none 0 0,.slice none 0 0] 34 (0,0))
theorem ZB.new (W:World):ZB (W.alloc (.cells #[.int .i64 0,.slice none 0 0,.slice none 0 0,.slice none 0 0,.slice none 0 0] 34)) W.heap.size:=⟨heap_alloc_new W _⟩
theorem ZB.newD (W:World):ZB (W.alloc (.cells #[.int .i64 0,.slice none 0 0,.slice none 0 0,.slice none 0 0,.slice none 0 0] 34)).drew W.heap.size:=⟨heap_alloc_new W _⟩
def mkZ (W:World):World:=W.alloc (.cells #[.int .i64 0,.slice none 0 0,.slice none 0 0,.slice none 0 0,.slice none 0 0] 34)
def mkD (W:World):World:=(W.alloc (.cells #[.int .i64 0,.slice none 0 0,.slice none 0 0,.slice none 0 0,.slice none 0 0] 34)).drew
theorem vi (W:World):W.alloc (.cells #[.int .i64 0,.slice none 0 0,.slice none 0 0,.slice none 0 0,.slice none 0 0] 34)=mkZ W:=rfl
theorem Dj (W:World):(W.alloc (.cells #[.int .i64 0,.slice none 0 0,.slice none 0 0,.slice none 0 0,.slice none 0 0] 34)).drew=mkD W:=rfl
theorem vj (W:World):ZB (mkZ W) W.heap.size:=ZB.new W
theorem Dk (W:World):ZB (mkD W) W.heap.size:=ZB.newD W
theorem ZB.next {W W':World} {b:Nat} (h:ZB W b) (hb:Below W.heap.size W W'):ZB W' b:=⟨(hb.block b (za h.heap)).trans h.heap⟩
theorem ZB.cells {W:World} {b:Nat} (h:ZB W b):W.cell? ⟨b,0,none⟩=some (.int .i64 0)/\W.cell? ⟨b,1,none⟩=some (.slice none 0 0)/\W.cell? ⟨b,2,none⟩=some (.slice none 0 0)/\W.cell? ⟨b,3,none⟩=some (.slice none 0 0)/\W.cell? ⟨b,4,none⟩=some (.slice none 0 0):=by
 have:= λj=>cell_of_row W b j _ _ _ h.heap
 exact⟨this 0,this 1,this 2,this 3,this 4⟩
theorem ZB.froz {W:World} {b:Nat} (h:ZB W b):W.frozen? ⟨b,0,none⟩=false/\W.frozen? ⟨b,1,none⟩=false/\W.frozen? ⟨b,2,none⟩=false/\W.frozen? ⟨b,3,none⟩=false/\W.frozen? ⟨b,4,none⟩=false:=by
 have:= λj=>frozen_of_row W b j _ _ h.heap
 exact⟨this 0,this 1,this 2,this 3,this 4⟩
theorem dr {W:World} {b:Nat} (h:BoxB W b) (hc:∃g v,Box W b g v) (g:Int) (v:IV):
  Box (((((W.setCell ⟨b,0,none⟩ (.int .i64 g)).setCell ⟨b,1,none⟩ (.slice v.rA v.rn v.rc)).setCell ⟨b,2,none⟩ (.slice v.sA v.sn v.sc)).setCell ⟨b,3,none⟩ (.slice v.fA v.fn v.fc)).setCell ⟨b,4,none⟩ (.slice v.pA v.pn v.pc)) b g v/\
  BoxB (((((W.setCell ⟨b,0,none⟩ (.int .i64 g)).setCell ⟨b,1,none⟩ (.slice v.rA v.rn v.rc)).setCell ⟨b,2,none⟩ (.slice v.sA v.sn v.sc)).setCell ⟨b,3,none⟩ (.slice v.fA v.fn v.fc)).setCell ⟨b,4,none⟩ (.slice v.pA v.pn v.pc)) b/\
  W.grownBy (((((W.setCell ⟨b,0,none⟩ (.int .i64 g)).setCell ⟨b,1,none⟩ (.slice v.rA v.rn v.rc)).setCell ⟨b,2,none⟩ (.slice v.sA v.sn v.sc)).setCell ⟨b,3,none⟩ (.slice v.fA v.fn v.fc)).setCell ⟨b,4,none⟩ (.slice v.pA v.pn v.pc)) (some b):=by
 obtain⟨g',v',c0,c1,c2,c3,c4⟩:=hc
 refine⟨⟨?_,?_,?_,?_,?_⟩,((((h.set _ _).set _ _).set _ _).set _ _).set _ _,((((ai W b 0 _).trans (ai _ b 1 _)).trans (ai _ b 2 _)).trans (ai _ b 3 _)).trans (ai _ b 4 _)⟩<;>go_simp
theorem ZB.box {W:World} {b:Nat} (h:ZB W b):BoxB W b/\ ∃g v,Box W b g v:=⟨⟨_,h.heap⟩,0,⟨none,0,0,none,0,0,none,0,0,none,0,0⟩,h.cells⟩
def vk (w:World) (m:Img) (e:Ending) (w':World):Prop:=∃v' tg q p,e=.returned (ae m v')/\OwnI w' w.heap.size tg v' q p m/\Below w.heap.size w w'
def DK (w:World) (m:Img) (q0:List SV) (p0:List PV) (sn pn:Nat) (s3:Value) (wx:World):Prop:=
 ∃(bo:Nat) (v':IV) (tg:Nat->Nat),s3=.pointer (some ⟨bo,0,none⟩)/\PartI w wx w.heap.size tg v' q0 p0 m 0 0/\v'.sn=sn/\v'.pn=pn/\Box wx bo m.guest v'/\BoxB wx bo/\w.heap.size+1<bo/\ZB wx (w.heap.size+1)/\Below w.heap.size w wx
theorem xi {w w3 w4 w5 w6 wx:World} {b3 b4 b5 b6 bo:Nat} {A3 A4 A5 A6:Option Addr} {rn fn sn pn c3 c4 c5 c6:Nat} {m:Img} {q0:List SV} {p0:List PV}
  (ho3:w3.ownsRow b3 3 1 (.slice A3 rn c3) rn (ah m.root)) (ho4:w4.ownsRow b4 3 1 (.slice A4 fn c4) fn (ah m.refs)) (ho5:w5.ownsRow b5 108 3 (.slice A5 sn c5) sn (q0.flatMap SV.cells)) (ho6:w6.ownsRow b6 102 3 (.slice A6 pn c6) pn (p0.flatMap PV.cells))
  (hc3:rn<=c3) (hm3:c3<=maxLen) (hc4:fn<=c4) (hm4:c4<=maxLen) (hc5:sn<=c5) (hm5:c5<=maxLen) (hc6:pn<=c6) (hm6:c6<=maxLen)
  (G4:Below w3.heap.size w3 w4) (G5:Below w4.heap.size w4 w5) (G6:Below w5.heap.size w5 w6) (hb3:w.heap.size<=b3) (hb4:w3.heap.size<=b4) (hb34:b3<=w3.heap.size) (hb5:w.heap.size<=b5) (hb6:w.heap.size<=b6)
  (U6:Below w.heap.size w w6) (hr:rn<=1000000) (hf:fn<=1000000) (hs:sn<=1000000) (hp:pn<=1000000) (hq0:q0.map (·.s)=m.slots) (hp0:p0.map (·.s)=m.snaps)
  (hvq:∀(k:Nat) (x:SV),q0[k]? =some x->SlotV w w.heap.size x.s x.A x.n x.c) (hvp:∀(k:Nat) (x:PV),p0[k]? =some x->SnapV w w.heap.size x.s x.A x.n x.c)
  (hz:ZB w6 (w.heap.size+1)) (hg:w6.grownBy wx (some bo)) (hbo:w.heap.size+1<bo) (hT:bo<w6.heap.size->TypeB w6 bo 34)
  (hx:Box wx bo m.guest ⟨A3,rn,c3,A5,sn,c5,A4,fn,c4,A6,pn,c6⟩) (hB:BoxB wx bo):
  DK w m q0 p0 sn pn (.pointer (some ⟨bo,0,none⟩)) wx:=by
 have hz3:=G4.size
 have hz4:=G5.size
 have hz5:=G6.size
 unfold maxLen at*
 have far:∀{e:TypeId} {size n base:Nat} {v:Value} {xs:List Value},w6.ownsRow base e size v n xs->e≠34->wx.ownsRow base e size v n xs:=by
  intro e size n base v xs ho hne
  refine ho.kept hg ?_
  rcases Nat.lt_or_ge bo w6.heap.size with hl|hl
  ·exact bH ho (hT hl) (λh=>hne h.symm)
  ·refine .inr λe=>?_
   have:=(ho.lt _ e).2
   omega
 have r3:=far (aI (aI (aI ho3 G4) G5) G6) (by decide)
 have r4:=far (aI (aI ho4 G5) G6) (by decide)
 have r5:=far (aI ho5 G6) (by decide)
 have r6:=far ho6 (by decide)
 refine⟨bo,⟨A3,rn,c3,A5,sn,c5,A4,fn,c4,A6,pn,c6⟩,λg=>if g<w3.heap.size then 0 else 1,rfl,⟨?_,?_,?_,hc5,?_,?_,hc6,?_,hq0,hp0,?_,?_⟩,rfl,rfl,hx,hB,hbo,?_,?_⟩
 ·exact⟨hc3,⟨by show rn<=_;omega,by show c3<=_;omega⟩,.inr ⟨bL r3 hb3,λb e=>if_pos (ho3.lt b e).2⟩⟩
 ·exact⟨hc4,⟨by show fn<=_;omega,by show c4<=_;omega⟩,.inr ⟨bL r4 (by omega),λb e=>if_neg (by have:=(ho4.lt b e).1;omega)⟩⟩
 ·exact bL r5 hb5
 ·exact⟨by show sn<=_;omega,by show c5<=_;omega⟩
 ·exact bL r6 hb6
 ·exact⟨by show pn<=_;omega,by show c6<=_;omega⟩
 ·exactλj x hx=>⟨(hvq j x hx).data,λh=>absurd h (Nat.not_lt_zero _),λ_=>hvq j x hx⟩
 ·exactλj x hx=>⟨(hvp j x hx).name,λh=>absurd h (Nat.not_lt_zero _),λ_=>hvp j x hx⟩
 ·exact⟨(hg.block _ (za hz.heap) (λe=>by injection e;omega)).trans hz.heap⟩
 ·exact U6.grown hg U6.size (λk e=>by injection e;omega)
theorem lE (v:IV) (m:Img) (w:World) (h:ImgR w w.heap.size v m) (hc:CBd m) (hfl:m.refs.length<=40):
  Calls prog 75 #[ae m v] w (vk w m):=by
 obtain⟨q0,hq0,hrq,hvq⟩:=h.slots.list
 obtain⟨p0,hp0,hrp,hvp⟩:=h.snaps.list
 have hsn:=h.slen
 have hpn:=h.plen
 have hrn:=h.rlen
 have hfn:=h.flen
 have h40:=hc.slots
 have h1:=hc.one
 have h4:=hc.snaps
 have hr4:=hc.root
 have hfle:v.fn<=1000000:=by omega
 have KR:=zh (λW (hb:Below w.heap.size w W)=>ex v.rA v.rn v.rc (ah m.root) W (h.next hb).root (eN _) (by omega))
 have KF:=zh (λW (hb:Below w.heap.size w W)=>ex v.fA v.fn v.fc (ah m.refs) W (h.next hb).refs (eN _) hfle)
 have KS:=zh (λW (hb:Below w.heap.size w W)=>vg v.sA v.sn v.sc (q0.flatMap SV.cells) W (Rd.next hrq hb) (Di q0) (by omega))
 have KP:=zh (λW (hb:Below w.heap.size w W)=>vh v.pA v.pn v.pc (p0.flatMap PV.cells) W (Rd.next hrp hb) (AH p0) (by omega))
 have KRz:=zh (λW b (hb:Below w.heap.size w W) (hz:ZB W b)=>(KR.o W hb).mono (R':= λe w'=>dJ W.heap.size 3 1 v.rn (ah m.root) W e w'/\ZB w' b) (λe w' h=>⟨h,by obtain⟨A,c,_,_,hb',_⟩:=h;exact hz.next hb'⟩))
 have KFz:=zh (λW b (hb:Below w.heap.size w W) (hz:ZB W b)=>(KF.o W hb).mono (R':= λe w'=>dJ W.heap.size 3 1 v.fn (ah m.refs) W e w'/\ZB w' b) (λe w' h=>⟨h,by obtain⟨A,c,_,_,hb',_⟩:=h;exact hz.next hb'⟩))
 have KSz:=zh (λW b (hb:Below w.heap.size w W) (hz:ZB W b)=>(KS.o W hb).mono (R':= λe w'=>dJ W.heap.size 108 3 v.sn (q0.flatMap SV.cells) W e w'/\ZB w' b) (λe w' h=>⟨h,by obtain⟨A,c,_,_,hb',_⟩:=h;exact hz.next hb'⟩))
 have KPz:=zh (λW b (hb:Below w.heap.size w W) (hz:ZB W b)=>(KP.o W hb).mono (R':= λe w'=>dJ W.heap.size 102 3 v.pn (p0.flatMap PV.cells) W e w'/\ZB w' b) (λe w' h=>⟨h,by obtain⟨A,c,_,_,hb',_⟩:=h;exact hz.next hb'⟩))
 have HQ:=zh (And.intro hq0 hvq)
 have HP:=zh (And.intro hp0 hvp)
 have HC:=zh hc
 have hrn':v.rn<=1000000:=by omega
 have hsn':v.sn<=1000000:=by omega
 have hpn':v.pn<=1000000:=by omega
 have HSN:=zh hsn
 obtain⟨rA,rn,rc,sA,sn,sc,fA,fn,fc,pA,pn,pc⟩:=v
 dsimp only[ae]at*
 have HB1:=aa (ac w (.cells #[.int .i64 m.guest,.slice rA rn rc,.slice sA sn sc,.slice fA fn fc,.slice pA pn pc] 34)) (ac _ (.cells #[.int .i64 0,.slice none 0 0,.slice none 0 0,.slice none 0 0,.slice none 0 0] 34))
 have HZ:=zh (ZB.new (w.alloc (.cells #[.int .i64 m.guest,.slice rA rn rc,.slice sA sn sc,.slice fA fn fc,.slice pA pn pc] 34)))
 have HX:=(Box.new w m.guest ⟨rA,rn,rc,sA,sn,sc,fA,fn,fc,pA,pn,pc⟩ 34).keep (ac _ (.cells #[.int .i64 0,.slice none 0 0,.slice none 0 0,.slice none 0 0,.slice none 0 0] 34)) (by simp)
 have hz:w.heap.size<((w.alloc (.cells #[.int .i64 m.guest,.slice rA rn rc,.slice sA sn sc,.slice fA fn fc,.slice pA pn pc] 34)).alloc (.cells #[.int .i64 0,.slice none 0 0,.slice none 0 0,.slice none 0 0,.slice none 0 0] 34)).heap.size:=by simp<;>omega
 have hz2:w.heap.size+2<=((w.alloc (.cells #[.int .i64 m.guest,.slice rA rn rc,.slice sA sn sc,.slice fA fn fc,.slice pA pn pc] 34)).alloc (.cells #[.int .i64 0,.slice none 0 0,.slice none 0 0,.slice none 0 0,.slice none 0 0] 34)).heap.size:=by simp<;>omega
 rw[World.size_alloc]at HZ
 clear h hc hq0 hvq hp0 hvp hrq hrp hsn hpn hrn hfn
 go_enter func75,ntmps75
 go_upto_region 1 with fail
 generalize hwa:(w.alloc (.cells #[.int .i64 m.guest,.slice rA rn rc,.slice sA sn sc,.slice fA fn fc,.slice pA pn pc] 34)).alloc (.cells #[.int .i64 0,.slice none 0 0,.slice none 0 0,.slice none 0 0,.slice none 0 0] 34)=wa at*
 obtain⟨b0,b1,b2,b3,b4⟩:=HX
 dsimp only at b0 b1 b2 b3 b4
 have hzz:w.heap.size<=wa.heap.size:=by omega
 clear hwa
 go_cut [3] (λs3 wx=>DK w m q0 p0 sn pn s3 wx)
 case first=>
  have HBd:Hid (Below wa.heap.size wa wa.drew):=zh (Below.refl _ _).drew
  have HBD:Hid (Below w.heap.size w wa.drew):=zh HB1.drew
  go_region_held3 (λw'=>w'.cell? ⟨w.heap.size,0,none⟩=some (.int .i64 m.guest)/\w'.cell? ⟨w.heap.size,1,none⟩=some (.slice rA rn rc)/\w'.cell? ⟨w.heap.size,2,none⟩=some (.slice sA sn sc)/\w'.cell? ⟨w.heap.size,3,none⟩=some (.slice fA fn fc)/\w'.cell? ⟨w.heap.size,4,none⟩=some (.slice pA pn pc)/\Below wa.heap.size wa w')
   (first|(with_reducible assumption)|((repeat (first|(with_reducible apply cG hz hb6)|(with_reducible apply cG hz hb5)|(with_reducible apply cG hz hb4)|(with_reducible apply cG hz hb3)|(with_reducible apply pI hz;(have s6:=hb6.size;have s5:=hb5.size;have s4:=hb4.size;have s3:=hb3.size;have sd:=HBd.o.size;(try simp only[World.size_alloc]at s6 s5 s4 s3);omega))|(with_reducible apply jO hz)|(with_reducible apply pp)));first|(with_reducible assumption)|(go_split_ands;refine⟨?_,?_,?_,?_,?_,?_⟩<;>with_reducible assumption)|(refine⟨?_,?_,?_,?_,?_,?_⟩<;>first|assumption|exact HBd.o|exact Below.refl _ _))|(refine⟨?_,?_,?_,?_,?_,?_⟩<;>first|assumption|exact HBd.o|exact Below.refl _ _))
   (first|(go_at_call 77;rw[Dj];refine(KRz.o (mkD _) _ ?_ (Dk _)).mono ?_;(unfold mkD;(refine HB1.trans (Below.mono (B:=wa.heap.size) ?_ hzz);(first|with_reducible assumption|(go_split_ands;with_reducible assumption))));rintro e w3 ⟨⟨A3,c3,rfl,ho3,hb3,hc3,hm3⟩,Z3⟩;(unfold mkD at hb3);(have V3:Below wa.heap.size wa w3:=aa (by(first|with_reducible assumption|(go_split_ands;with_reducible assumption))) hb3))|(go_at_call 77;refine(KR.o _ ?_).mono ?_;(refine HB1.trans (Below.mono (B:=wa.heap.size) ?_ hzz);(first|with_reducible assumption|(go_split_ands;with_reducible assumption)));rintro e w3 ⟨A3,c3,rfl,ho3,hb3,hc3,hm3⟩;(have V3:Below wa.heap.size wa w3:=aa (by(first|with_reducible assumption|(go_split_ands;with_reducible assumption))) hb3);skip)|(go_at_call 77;rw[vi];refine(KFz.o (mkZ _) _ ?_ (vj _)).mono ?_;(unfold mkZ;(refine HB1.trans (Below.mono (B:=wa.heap.size) ?_ hzz);(first|with_reducible assumption|(go_split_ands;with_reducible assumption))));rintro e w4 ⟨⟨A4,c4,rfl,ho4,hb4,hc4,hm4⟩,Z4⟩;(unfold mkZ at hb4);(have V4:Below wa.heap.size wa w4:=aa (by(first|with_reducible assumption|(go_split_ands;with_reducible assumption))) hb4);have G4:=aa (ac _ _) hb4)|(go_at_call 77;refine(KFz.o _ _ ?_ Z3).mono ?_;(refine HB1.trans (Below.mono (B:=wa.heap.size) ?_ hzz);(first|with_reducible assumption|(go_split_ands;with_reducible assumption)));rintro e w4 ⟨⟨A4,c4,rfl,ho4,hb4,hc4,hm4⟩,Z4⟩;(have V4:Below wa.heap.size wa w4:=aa (by(first|with_reducible assumption|(go_split_ands;with_reducible assumption))) hb4);have G4:=hb4)|(go_at_call 77;refine(KF.o _ ?_).mono ?_;(refine HB1.trans (Below.mono (B:=wa.heap.size) ?_ hzz);(first|with_reducible assumption|(go_split_ands;with_reducible assumption)));rintro e w4 ⟨A4,c4,rfl,ho4,hb4,hc4,hm4⟩;(have V4:Below wa.heap.size wa w4:=aa (by(first|with_reducible assumption|(go_split_ands;with_reducible assumption))) hb4);have G4:=hb4)|(go_at_call 132;rw[vi];refine(KSz.o (mkZ _) _ ?_ (vj _)).mono ?_;(unfold mkZ;(refine HB1.trans (Below.mono (B:=wa.heap.size) ?_ hzz);(first|with_reducible assumption|(go_split_ands;with_reducible assumption))));rintro e w5 ⟨⟨A5,c5,rfl,ho5,hb5,hc5,hm5⟩,Z5⟩;(unfold mkZ at hb5);(have V5:Below wa.heap.size wa w5:=aa (by(first|with_reducible assumption|(go_split_ands;with_reducible assumption))) hb5);have G5:=aa (ac _ _) hb5)|(go_at_call 132;refine(KSz.o _ _ ?_ Z4).mono ?_;(refine HB1.trans (Below.mono (B:=wa.heap.size) ?_ hzz);(first|with_reducible assumption|(go_split_ands;with_reducible assumption)));rintro e w5 ⟨⟨A5,c5,rfl,ho5,hb5,hc5,hm5⟩,Z5⟩;(have V5:Below wa.heap.size wa w5:=aa (by(first|with_reducible assumption|(go_split_ands;with_reducible assumption))) hb5);have G5:=hb5)|(go_at_call 132;refine(KS.o _ ?_).mono ?_;(refine HB1.trans (Below.mono (B:=wa.heap.size) ?_ hzz);(first|with_reducible assumption|(go_split_ands;with_reducible assumption)));rintro e w5 ⟨A5,c5,rfl,ho5,hb5,hc5,hm5⟩;(have V5:Below wa.heap.size wa w5:=aa (by(first|with_reducible assumption|(go_split_ands;with_reducible assumption))) hb5);have G5:=hb5)|(go_at_call 133;rw[vi];refine(KPz.o (mkZ _) _ ?_ (vj _)).mono ?_;(unfold mkZ;(refine HB1.trans (Below.mono (B:=wa.heap.size) ?_ hzz);(first|with_reducible assumption|(go_split_ands;with_reducible assumption))));rintro e w6 ⟨⟨A6,c6,rfl,ho6,hb6,hc6,hm6⟩,Z6⟩;(unfold mkZ at hb6);(have V6:Below wa.heap.size wa w6:=aa (by(first|with_reducible assumption|(go_split_ands;with_reducible assumption))) hb6);have G6:=aa (ac _ _) hb6;(obtain⟨z0,z1,z2,z3,z4⟩:=Z6.cells);(obtain⟨y0,y1,y2,y3,y4⟩:=Z6.froz))|(go_at_call 133;refine(KPz.o _ _ ?_ Z5).mono ?_;(refine HB1.trans (Below.mono (B:=wa.heap.size) ?_ hzz);(first|with_reducible assumption|(go_split_ands;with_reducible assumption)));rintro e w6 ⟨⟨A6,c6,rfl,ho6,hb6,hc6,hm6⟩,Z6⟩;(have V6:Below wa.heap.size wa w6:=aa (by(first|with_reducible assumption|(go_split_ands;with_reducible assumption))) hb6);have G6:=hb6;(obtain⟨z0,z1,z2,z3,z4⟩:=Z6.cells);(obtain⟨y0,y1,y2,y3,y4⟩:=Z6.froz))|(go_at_call 133;refine(KP.o _ ?_).mono ?_;(refine HB1.trans (Below.mono (B:=wa.heap.size) ?_ hzz);(first|with_reducible assumption|(go_split_ands;with_reducible assumption)));rintro e w6 ⟨A6,c6,rfl,ho6,hb6,hc6,hm6⟩;(have V6:Below wa.heap.size wa w6:=aa (by(first|with_reducible assumption|(go_split_ands;with_reducible assumption))) hb6);have G6:=hb6))
  all_goals
   go_wp2_with fail
   go_meet
   have s3:=hb3.size
   have s4:=hb4.size
   have s5:=hb5.size
   have s6:=hb6.size
   have U6:=HB1.trans (V6.mono hzz)
   have Z0:ZB w6 (w.heap.size+1):=⟨(V6.block _ (by omega)).trans HZ.o.heap⟩
   (try simp only[World.size_drew]at s3 s4 s5 s6)
   (try simp only[World.size_alloc]at s3 s4 s5 s6)
   first
   |exact xi ho3 ho4 ho5 ho6 hc3 hm3 hc4 hm4 hc5 hm5 hc6 hm6 G4 G5 G6 (by((try unfold mkZ);(try unfold mkD);(try simp only[World.size_drew]);(try simp only[World.size_alloc]);omega)) (by((try unfold mkZ);(try unfold mkD);(try simp only[World.size_drew]);(try simp only[World.size_alloc]);omega)) (by((try unfold mkZ);(try unfold mkD);(try simp only[World.size_drew]);(try simp only[World.size_alloc]);omega)) (by((try unfold mkZ);(try unfold mkD);(try simp only[World.size_drew]);(try simp only[World.size_alloc]);omega)) (by((try unfold mkZ);(try unfold mkD);(try simp only[World.size_drew]);(try simp only[World.size_alloc]);omega)) U6 hrn' hfle hsn' hpn' HQ.o.1 HP.o.1 HQ.o.2 HP.o.2 Z0 (World.grownBy_alloc w6 _ _) (by((try unfold mkZ);(try unfold mkD);(try simp only[World.size_drew]);(try simp only[World.size_alloc]);omega)) (λh=>absurd h (by omega)) (Box.new w6 m.guest ⟨A3,rn,c3,A5,sn,c5,A4,fn,c4,A6,pn,c6⟩ 34) (BoxB.new w6 _)
   |exact xi ho3 ho4 ho5 ho6 hc3 hm3 hc4 hm4 hc5 hm5 hc6 hm6 G4 G5 G6 (by((try unfold mkZ);(try unfold mkD);(try simp only[World.size_drew]);(try simp only[World.size_alloc]);omega)) (by((try unfold mkZ);(try unfold mkD);(try simp only[World.size_drew]);(try simp only[World.size_alloc]);omega)) (by((try unfold mkZ);(try unfold mkD);(try simp only[World.size_drew]);(try simp only[World.size_alloc]);omega)) (by((try unfold mkZ);(try unfold mkD);(try simp only[World.size_drew]);(try simp only[World.size_alloc]);omega)) (by((try unfold mkZ);(try unfold mkD);(try simp only[World.size_drew]);(try simp only[World.size_alloc]);omega)) U6 hrn' hfle hsn' hpn' HQ.o.1 HP.o.1 HQ.o.2 HP.o.2 Z0 (dr Z6.box.1 Z6.box.2 m.guest ⟨A3,rn,c3,A5,sn,c5,A4,fn,c4,A6,pn,c6⟩).2.2 (by((try unfold mkZ);(try unfold mkD);(try simp only[World.size_drew]);(try simp only[World.size_alloc]);omega)) (λ_=>Z6.box.1.ty) (dr Z6.box.1 Z6.box.2 m.guest ⟨A3,rn,c3,A5,sn,c5,A4,fn,c4,A6,pn,c6⟩).1 (dr Z6.box.1 Z6.box.2 m.guest ⟨A3,rn,c3,A5,sn,c5,A4,fn,c4,A6,pn,c6⟩).2.1
 case rest=>
  obtain⟨bo,⟨rA2,rn2,rc2,sA2,sn2,sc2,fA2,fn2,fc2,pA2,pn2,pc2⟩,tg0,rfl,HPt,hv1,hv2,hbx,hBB,hbo,hZ,hBw⟩:=hcut
  dsimp only at hv1 hv2
  subst hv1 hv2
  obtain⟨sb,rfl,hsb,_⟩:=bK HPt.slots (by dsimp only;have:=HSN.o;omega)
  have HP0:=zh HPt
  clear HPt KRz KFz KSz KPz KR KF KS KP b0 b1 b2 b3 b4 HB1 HZ hz hz2 hzz
  obtain⟨b0,b1,b2,b3,b4⟩:=hbx
  dsimp only at b0 b1 b2 b3 b4
  go_wp2_with fail
  go_loopw [24] (λi wr=>∃(k:Nat) (tg:Nat->Nat) (q:List SV),k<=sn2/\i=.int .i64 k/\PartI w wr w.heap.size tg ⟨rA2,rn2,rc2,some ⟨sb,0,none⟩,sn2,sc2,fA2,fn2,fc2,pA2,pn2,pc2⟩ q p0 m k 0/\Box wr bo m.guest ⟨rA2,rn2,rc2,some ⟨sb,0,none⟩,sn2,sc2,fA2,fn2,fc2,pA2,pn2,pc2⟩/\BoxB wr bo/\ZB wr (w.heap.size+1)/\Below w.heap.size w wr) (λi _=>sn2-(intOf i).toNat)
  case atStart=>exact⟨0,tg0,q0,Nat.zero_le _,rfl,HP0.o,⟨b0,b1,b2,b3,b4⟩,hBB,hZ,hBw⟩
  case round=>
   obtain⟨k,tg,q,hk,rfl,hpt,hbx,hBr,hZr,hbw⟩:=hrel
   have HPT:=zh hpt
   clear b0 b1 b2 b3 b4 hBB hZ hBw
   obtain⟨b0,b1,b2,b3,b4⟩:=hbx
   dsimp only at b0 b1 b2 b3 b4
   by_cases hlt:k<sn2
   ·have hkq:k<q.length:=by have:=hpt.qlen;dsimp only at this;omega
    have hqk:=List.getElem?_eq_getElem hkq
    generalize q[k]=xk at hqk
    have hv:=(hpt.tabs k xk hqk).2.2 (Nat.le_refl _)
    have hmem:xk.s∈m.slots:=by rw[<-hpt.hq];exact List.mem_map.2 ⟨xk,List.mem_of_getElem? hqk,rfl⟩
    have hx4:xk.n<=4:=by have:=HC.o.tables _ hmem;have:=hv.table.len;omega
    have KC:=zh (λW (hb:Below w.heap.size w W)=>ex xk.A xk.n xk.c (ah xk.s.table) W (Rd.next hv.table hb) (eN _) (by omega))
    have c2:=hpt.slots.cellAt (k*3+2) (by dsimp only;omega)
    rw[av SV.cells SV.cells_len q k xk hqk 2 (by omega)]at c2
    simp only[SV.cells,bE,List.getElem?_cons_zero,List.getElem?_cons_succ]at c2
    have f2:=hpt.slots.frozenAt (k*3+2)
    have hsl:=(au hpt.slots (b:=sb) rfl).lt
    have hbl:=hBr.ty.lt
    have hbd:Below w.heap.size w wr.drew:=hbw.drew
    have e0:(0:Int)<=(k:Int):=by omega
    have e1:(k:Int)<(sn2:Int):=by omega
    have HQK:=zh hqk
    clear hqk hv hmem hpt
    go_wp2_with fail
    go_region_law (first|(go_simp;go_at_call 77;refine(KC.o _ hbd).mono ?_;rintro e w5 ⟨A5,c5,rfl,ho5,hb5,hc5,hm5⟩;have b2':=(hb5.cell (p:=⟨bo,2,none⟩) hbl).trans b2;have c2':=(hb5.cell (p:=⟨sb,k*3+2,none⟩) hsl).trans c2;have f2':=(hb5.frozen (p:=⟨sb,k*3+2,none⟩) hsl).trans f2))
    all_goals
     have hb5':Below wr.heap.size wr w5:=(Below.refl _ _).drew.trans hb5
     obtain⟨n1,n2⟩:=((HPT.o.retag (tg':= λg=>if wr.heap.size<=g then 2*k+4 else tg g) (λb' hb'=>if_neg (by omega))).next hb5').setTab rfl HQK.o (A:=A5) (n:=xk.n) (c:=c5) ⟨hc5,⟨by omega,by unfold maxLen at hm5;omega⟩,.inr ⟨bL ho5 hbw.size,λg hg=>if_pos (ho5.lt g hg).1⟩⟩
     have hne:some bo≠some sb:= λe=>hBr.ty.ne (au HPT.o.slots (b:=sb) rfl) (by decide) (by injection e)
     have hne2:some (w.heap.size+1)≠some sb:= λe=>(TypeB.ne ⟨_,_,hZr.heap⟩ (au HPT.o.slots (b:=sb) rfl) (by decide)) (by injection e)
     have hbx5:=((show Box wr bo m.guest ⟨rA2,rn2,rc2,some ⟨sb,0,none⟩,sn2,sc2,fA2,fn2,fc2,pA2,pn2,pc2⟩from⟨b0,b1,b2,b3,b4⟩).keep hb5' hbl).kept n2 hne
     have hB5:=(hBr.next hb5').kept n2 hne
     have hZ5:=hZr.next hb5'
     have hZ6:ZB (w5.setCell ⟨sb,k*3+2,none⟩ (.slice A5 xk.n c5)) (w.heap.size+1):=⟨(n2.block _ (za hZ5.heap) hne2).trans hZ5.heap⟩
     have hb6:=(aa hbw hb5').grown n2 (Nat.le_trans hbw.size hb5'.size) (λj e=>by injection e with e;omega)
     clear b0 b1 b2 b3 b4 b2' c2' f2' c2 f2
     go_wp2_with fail
     go_roundw
     case rel=>exact⟨k+1,_,_,by omega,by go_num,n1,hbx5,hB5,hZ6,hb6⟩
     case measure=>simp[intOf];omega
   ·obtain rfl:k=sn2:=by omega
    have HP1:=zh hpt
    clear hpt HPT HP0
    go_wp2_with fail
    go_loopw [43] (λi wr=>∃(l:Nat) (tg:Nat->Nat) (p:List PV),l<=pn2/\i=.int .i64 l/\PartI w wr w.heap.size tg ⟨rA2,rn2,rc2,some ⟨sb,0,none⟩,k,sc2,fA2,fn2,fc2,pA2,pn2,pc2⟩ q p m k l/\Box wr bo m.guest ⟨rA2,rn2,rc2,some ⟨sb,0,none⟩,k,sc2,fA2,fn2,fc2,pA2,pn2,pc2⟩/\BoxB wr bo/\ZB wr (w.heap.size+1)/\Below w.heap.size w wr) (λi _=>pn2-(intOf i).toNat)
    case atStart=>exact⟨0,tg,p0,Nat.zero_le _,rfl,HP1.o,⟨b0,b1,b2,b3,b4⟩,hBr,hZr,hbw⟩
    case round=>
     clear b0 b1 b2 b3 b4 hBr hZr hbw HP1
     obtain⟨l,tg,p,hl,rfl,hpt,hbx,hBr,hZr,hbw⟩:=hrel
     have HPT:=zh hpt
     obtain⟨b0,b1,b2,b3,b4⟩:=hbx
     dsimp only at b0 b1 b2 b3 b4
     by_cases hlt:l<pn2
     ·obtain⟨sb2,rfl,hsb2,_⟩:=bK hpt.snaps (by dsimp only;omega)
      have hkq:l<p.length:=by have:=hpt.plen;dsimp only at this;omega
      have hqk:=List.getElem?_eq_getElem hkq
      generalize p[l]=xk at hqk
      have hv:=(hpt.roots l xk hqk).2.2 (Nat.le_refl _)
      have hmem:xk.s∈m.snaps:=by rw[<-hpt.hp];exact List.mem_map.2 ⟨xk,List.mem_of_getElem? hqk,rfl⟩
      have hx4:xk.n<=4:=by have:=HC.o.roots _ hmem;have:=hv.root.len;omega
      have KC:=zh (λW (hb:Below w.heap.size w W)=>ex xk.A xk.n xk.c (ah xk.s.root) W (Rd.next hv.root hb) (eN _) (by omega))
      have c2:=hpt.snaps.cellAt (l*3+2) (by dsimp only;omega)
      rw[av PV.cells PV.cells_len p l xk hqk 2 (by omega)]at c2
      simp only[PV.cells,List.getElem?_cons_zero,List.getElem?_cons_succ]at c2
      have f2:=hpt.snaps.frozenAt (l*3+2)
      have hsl:=(au hpt.snaps (b:=sb2) rfl).lt
      have hbl:=hBr.ty.lt
      have hbd:Below w.heap.size w wr.drew:=hbw.drew
      have e0:(0:Int)<=(l:Int):=by omega
      have e1:(l:Int)<(pn2:Int):=by omega
      have HQK:=zh hqk
      clear hqk hv hmem hpt
      go_wp2_with fail
      go_region_law (first|(go_simp;go_at_call 77;refine(KC.o _ hbd).mono ?_;rintro e w5 ⟨A5,c5,rfl,ho5,hb5,hc5,hm5⟩;have b4':=(hb5.cell (p:=⟨bo,4,none⟩) hbl).trans b4;have c2':=(hb5.cell (p:=⟨sb2,l*3+2,none⟩) hsl).trans c2;have f2':=(hb5.frozen (p:=⟨sb2,l*3+2,none⟩) hsl).trans f2))
      all_goals
       have hb5':Below wr.heap.size wr w5:=(Below.refl _ _).drew.trans hb5
       obtain⟨n1,n2⟩:=((HPT.o.retag (tg':= λg=>if wr.heap.size<=g then 2*l+5 else tg g) (λb' hb'=>if_neg (by omega))).next hb5').setRoot rfl HQK.o (A:=A5) (n:=xk.n) (c:=c5) ⟨hc5,⟨by omega,by unfold maxLen at hm5;omega⟩,.inr ⟨bL ho5 hbw.size,λg hg=>if_pos (ho5.lt g hg).1⟩⟩
       have hne:some bo≠some sb2:= λe=>hBr.ty.ne (au HPT.o.snaps (b:=sb2) rfl) (by decide) (by injection e)
       have hne2:some (w.heap.size+1)≠some sb2:= λe=>(TypeB.ne ⟨_,_,hZr.heap⟩ (au HPT.o.snaps (b:=sb2) rfl) (by decide)) (by injection e)
       have hbx5:=((show Box wr bo m.guest ⟨rA2,rn2,rc2,some ⟨sb,0,none⟩,k,sc2,fA2,fn2,fc2,some ⟨sb2,0,none⟩,pn2,pc2⟩from⟨b0,b1,b2,b3,b4⟩).keep hb5' hbl).kept n2 hne
       have hB5:=(hBr.next hb5').kept n2 hne
       have hZ5:=hZr.next hb5'
       have hZ6:ZB (w5.setCell ⟨sb2,l*3+2,none⟩ (.slice A5 xk.n c5)) (w.heap.size+1):=⟨(n2.block _ (za hZ5.heap) hne2).trans hZ5.heap⟩
       have hb6:=(aa hbw hb5').grown n2 (Nat.le_trans hbw.size hb5'.size) (λj e=>by injection e with e;omega)
       clear b0 b1 b2 b3 b4 b4' c2' f2' c2 f2
       go_wp2_with fail
       go_roundw
       case rel=>exact⟨l+1,_,_,by omega,by go_num,n1,hbx5,hB5,hZ6,hb6⟩
       case measure=>simp[intOf];omega
     ·have HO:=zh (hpt.own (Nat.le_refl _) (by show pn2<=l;omega))
      have h5:=dr hZr.box.1 hZr.box.2 m.guest ⟨rA2,rn2,rc2,some ⟨sb,0,none⟩,k,sc2,fA2,fn2,fc2,pA2,pn2,pc2⟩
      have hfin:=zh (HO.o.kept h5.2.2 hZr.box.1.ty (by decide) (by decide) (by decide))
      have hbf:=zh (hbw.grown h5.2.2 hbw.size (λj e=>by injection e with e;omega))
      have HK:=zh h5.1
      obtain⟨y0,y1,y2,y3,y4⟩:=hZr.cells
      obtain⟨x0,x1,x2,x3,x4⟩:=hZr.froz
      clear hpt HPT h5
      go_wp2_with fail
      obtain⟨k0,k1,k2,k3,k4⟩:=HK.o
      refine bodyPost_ret (v:=ae m ⟨rA2,rn2,rc2,some ⟨sb,0,none⟩,k,sc2,fA2,fn2,fc2,pA2,pn2,pc2⟩) ?_ rfl ⟨_,tg,q,p,rfl,hfin.o,hbf.o⟩
      simp[results,results75,go_sem,k0,k1,k2,k3,k4]
end Go.Proofs.YtdbneghfbkjinaaGreatDoor
