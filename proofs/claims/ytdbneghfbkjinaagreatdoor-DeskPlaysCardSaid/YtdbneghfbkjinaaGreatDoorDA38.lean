/- Texts of the proof of deskPlays_holds: AppE, OwnI. Conditions: as each text says. -/
import Derived.Test.YtdbneghfbkjinaaGreatDoorDA1
import Derived.Test.YtdbneghfbkjinaaGreatDoorDA17
set_option maxRecDepth 100000
set_option maxHeartbeats 8000000
namespace Go.Proofs.YtdbneghfbkjinaaGreatDoor
section
open Go.Proofs.Tryz
open Go.RowKit Sl
structure EB (W:World) (g:Nat):Prop where
 heap:W.heap[g]? =some (.cells #[] 3 (0,0))
theorem EB.new' {W:World} {g:Nat} (h:g=W.heap.size):EB (W.alloc (.cells #[] 3)) g:=by subst h;exact⟨heap_alloc_new W _⟩
theorem EB.next {W W':World} {g:Nat} (h:EB W g) (hb:Below W.heap.size W W'):EB W' g:=⟨(hb.block g (za h.heap)).trans h.heap⟩
theorem EB.nextH {W W':World} {g:Nat} (hb:Below W.heap.size W W') (h:EB W g):EB W' g:=h.next hb
theorem EB.alloc {W:World} {g:Nat} {o:Obj} (h:EB W g):EB (W.alloc o) g:=h.next (ac W o)
theorem EB.drew {W:World} {g:Nat} (h:EB W g):EB W.drew g:=⟨h.heap⟩
theorem ZB.new' {W:World} {g:Nat} (h:g=W.heap.size):ZB (W.alloc (.cells #[.int .i64 0,.slice none 0 0,.slice none 0 0,.slice none 0 0,.slice none 0 0] 34)) g:=by subst h;exact ZB.new W
theorem ZB.alloc' {W:World} {g:Nat} {o:Obj} (h:ZB W g):ZB (W.alloc o) g:=h.next (ac W o)
theorem ZB.drew' {W:World} {g:Nat} (h:ZB W g):ZB W.drew g:=⟨h.heap⟩
theorem ZB.nextH {W W':World} {g:Nat} (hb:Below W.heap.size W W') (h:ZB W g):ZB W' g:=h.next hb
theorem jI (W:World) (g:Nat) (he:EB W g) (A:Option Addr) (m c:Nat) (cs:List Int) (hr:Rd W W.heap.size 1 A m (ah cs)) (hm:m<=1000000):
  ∃A' c' w',(Builtin.append_ #[30,30] 30 #[.slice (some ⟨g,0,none⟩) 0 0,.slice A m c]).run prog W=.ok (.slice A' m c') w'/\
   ((m=0/\cs=[]/\c'=0)\/w'.ownsRow W.heap.size 3 1 (.slice A' m c') m (ah cs))/\Below W.heap.size W w'/\m<=c'/\c'<=maxLen:=by
 obtain⟨i0,hi0,hz0,hz1,hz2⟩:=info_parts infoInt
 have hown:W.ownsRow 0 3 1 (.slice (some ⟨g,0,none⟩) 0 0) 0 []:=⟨by simp,.inr ⟨g,0,#[],rfl,Nat.zero_le _,he.heap,Nat.le_refl _,by simp,by simp,by simp⟩⟩
 rcases Nat.eq_zero_or_pos m with h0|h0
 ·subst h0
  have hcs:cs=[]:=List.eq_nil_of_length_eq_zero hr.len
  subst hcs
  refine⟨some ⟨g,0,none⟩,0,W,?_,.inl ⟨rfl,rfl,rfl⟩,Below.refl _ _,Nat.le_refl _,by simp⟩
  cases A with
  |none=>exact mG W 0 _ _ 3 i0 1 underlying30 hi0 _ 0 [] hown c
  |some a=>simp[Builtin.append_,run_underlying underlying30,sizeOf,typeInfo,hi0,Builtin.lenOf,Builtin.firstCells,loadCells,loadCellsFrom,storeCells]
 ·obtain⟨b,o,rfl,hb,hc⟩:=hr.2 h0
  have hnews:∀j u,(ah cs)[j]? =some u->W.cell? ((⟨b,o,none⟩:Addr).add j)=some u:=by
   intro j u hu
   have:=hc j u hu
   unfold Addr.add
   by_cases hj:j=0
   ·subst hj;simpa using this
   ·rw[if_neg hj];exact this
  have hlen:(ah cs).length=m*1:=hr.1
  obtain⟨v',w',q1,q2,q3,q4,q5⟩:=run_append_own_at (P:=prog) W 0 30 30 3 i0 _ 1 8 underlying30 hi0 hz0 hz1 hz2 rfl (by omega) _ 0 [] hown ⟨b,o,none⟩ m c (ah cs) hlen hnews (eN cs) (by unfold maxLen;omega) (by omega) (Nat.zero_le _)
  have hgr:=run_append_grow (P:=prog) W 30 30 3 i0 _ underlying30 hi0 hz0 ⟨g,0,none⟩ 0 0 [] (by simp) (λj v h=>by simp at h) ⟨b,o,none⟩ m c (ah cs) (by rw[hz1];exact hlen) hnews (by omega) (by omega)
   (by rw[hz2];have:Builtin.nextslicecap (0+m) 0<=2*m+1000000:=by rw[Nat.zero_add,nextslicecap_zero h0];omega
       omega)
  rw[hgr]at q1
  rw[Nat.zero_add]at q1 q2
  injection q1 with e1 e2
  subst e1
  subst e2
  obtain⟨A',c',e,k1,k2⟩:=ll q2
  rw[Nat.zero_add]at hgr
  refine⟨_,_,_,hgr,.inr ?_,(Below.refl _ _).drew.trans ((ac W.drew _)),?_,?_⟩
  ·obtain⟨r1,r2⟩:=q2
   refine⟨r1,?_⟩
   rcases r2 with⟨hv,_⟩|⟨g',cap,cur,hv,hg',r3⟩
   ·simp at hv
   ·refine .inr ⟨g',cap,cur,hv,?_,r3⟩
    simp only[Value.slice.injEq,Option.some.injEq,Addr.mk.injEq,and_true,true_and]at hv
    omega
  ·injection e with _ _ e3;rw[e3];exact k1
  ·injection e with _ _ e3;rw[e3];exact k2
theorem kg {W:World} {ops:Array Oper} {o:Oper} {a:Act} {K:Act->World->Prop} {Q:Exit->Act->World->Prop} {E:Prop} (hgd:o.guard=none) (s x:Operand)
  (ho:o.op=.call {callee:=.builtin .append,args:=#[s,x],argTypes:=#[30,30]}) (hty:o.type=30)
  (g:Nat) (hs:a.eval s=.slice (some ⟨g,0,none⟩) 0 0) (A:Option Addr) (m c:Nat) (hx:a.eval x=.slice A m c) (cs:List Int) (hr:Rd W W.heap.size 1 A m (ah cs)) (hm:m<=1000000) (he:EB W g)
  (h:∀A' c' w',((m=0/\cs=[]/\c'=0)\/w'.ownsRow W.heap.size 3 1 (.slice A' m c') m (ah cs))->Below W.heap.size W w'->m<=c'->c'<=maxLen->K (a.put o.dst (.slice A' m c')) w'):
  if Region.wanted o (yielded ops a.tmps)=true then Oper.wp prog o a W K Q else E:=by
 have hw:Region.wanted o (yielded ops a.tmps)=true:=by simp[Region.wanted,hgd]
 rw[if_pos hw]
 obtain⟨A',c',w',q1,q2,q3,q4,q5⟩:=jI W g he A m c cs hr hm
 unfold Oper.wp execOp
 simp only[ho,hty,resolve,invoke,builtin,Sem.run_bind,Sem.run_pure,Result.andThen_ok,List.map_toArray,List.map_cons,List.map_nil,hs,hx,q1]
 exact h A' c' w' q2 q3 q4 q5
theorem vW {W:World} {ops:Array Oper} {o:Oper} {a:Act} {K:Act->World->Prop} {Q:Exit->Act->World->Prop} {E:Prop} (x3:Operand) (bo:Nat) (_hp:a.eval x3=.pointer (some ⟨bo,0,none⟩)) (hgd:o.guard=none) (s x:Operand)
  (ho:o.op=.call {callee:=.builtin .append,args:=#[s,x],argTypes:=#[30,30]}) (hty:o.type=30)
  (g:Nat) (hs:a.eval s=.slice (some ⟨g,0,none⟩) 0 0) (A:Option Addr) (m c:Nat) (hx:a.eval x=.slice A m c) (hz:ZB W bo) (cs:List Int) (hr:Rd W W.heap.size 1 A m (ah cs)) (hm:m<=1000000) (he:EB W g)
  (h:∀A' c' w',((m=0/\cs=[]/\c'=0)\/w'.ownsRow W.heap.size 3 1 (.slice A' m c') m (ah cs))->Below W.heap.size W w'->m<=c'->c'<=maxLen->ZB w' bo->K (a.put o.dst (.slice A' m c')) w'):
  if Region.wanted o (yielded ops a.tmps)=true then Oper.wp prog o a W K Q else E:=
 kg hgd s x ho hty g hs A m c hx cs hr hm he (λA' c' w' h1 h2 h3 h4=>h A' c' w' h1 h2 h3 h4 (hz.next h2))
end
section
open Go.Proofs.Tryz
open Go.RowKit Sl
def Df (wa:World) (m:Img) (s3:Value) (wx:World):Prop:=
 ∃(bo:Nat) (A3:Option Addr) (n3 c3:Nat) (A4:Option Addr) (n4 c4:Nat) (tg:Nat->Nat),s3=.pointer (some ⟨bo,0,none⟩)/\OwnI wx wa.heap.size tg ⟨A3,n3,c3,none,0,0,A4,n4,c4,none,0,0⟩ [] [] {m with slots:=[],snaps:=[]}/\
  Box wx bo m.guest ⟨A3,n3,c3,none,0,0,A4,n4,c4,none,0,0⟩/\BoxB wx bo/\wa.heap.size<=bo/\Below wa.heap.size wa wx
theorem tQ {w W3 w3 W4 w4 wx:World} {bo:Nat} {A3 A4:Option Addr} {rn fn c3 c4:Nat} {m:Img}
  (ho3:(rn=0/\m.root=[]/\c3=0)\/w3.ownsRow W3.heap.size 3 1 (.slice A3 rn c3) rn (ah m.root)) (ho4:(fn=0/\m.refs=[]/\c4=0)\/w4.ownsRow W4.heap.size 3 1 (.slice A4 fn c4) fn (ah m.refs))
  (hc3:rn<=c3) (hm3:c3<=maxLen) (hc4:fn<=c4) (hm4:c4<=maxLen) (hb3:w.heap.size<=W3.heap.size) (hb34:w3.heap.size<=W4.heap.size) (G4:Below w3.heap.size w3 w4) (hs3:W3.heap.size<=w3.heap.size)
  (U4:Below w.heap.size w w4) (hr:rn<=1000000) (hf:fn<=1000000)
  (hg:w4.grownBy wx (some bo)) (hbo:w.heap.size<=bo) (hT:bo<w4.heap.size->TypeB w4 bo 34)
  (hx:Box wx bo m.guest ⟨A3,rn,c3,none,0,0,A4,fn,c4,none,0,0⟩) (hB:BoxB wx bo):
  Df w m (.pointer (some ⟨bo,0,none⟩)) wx:=by
 unfold maxLen at*
 have far:∀{e:TypeId} {size n base:Nat} {v:Value} {xs:List Value},w4.ownsRow base e size v n xs->e≠34->wx.ownsRow base e size v n xs:=by
  intro e size n base v xs ho hne
  refine ho.kept hg ?_
  rcases Nat.lt_or_ge bo w4.heap.size with hl|hl
  ·exact bH ho (hT hl) (λh=>hne h.symm)
  ·refine .inr λe=>?_
   have:=(ho.lt _ e).2
   omega
 refine⟨bo,A3,rn,c3,A4,fn,c4,λg=>if g<w3.heap.size then 0 else 1,rfl,⟨?_,?_,World.ownsRow_nil _ _ _ _,Nat.le_refl _,(by show 0<=_/\0<=_;decide),World.ownsRow_nil _ _ _ _,Nat.le_refl _,(by show 0<=_/\0<=_;decide),rfl,rfl,λk x hx=>by simp at hx,λk x hx=>by simp at hx⟩,hx,hB,hbo,?_⟩
 ·exact⟨hc3,⟨by show rn<=_;omega,by show c3<=_;omega⟩,ho3.imp (λhh=>⟨hh.1,hh.2.1,.inr hh.2.2⟩) λho=>⟨bL (far (aI ho G4) (by decide)) hb3,λb e=>if_pos (ho.lt b e).2⟩⟩
 ·exact⟨hc4,⟨by show fn<=_;omega,by show c4<=_;omega⟩,ho4.imp (λhh=>⟨hh.1,hh.2.1,.inr hh.2.2⟩) λho=>⟨bL (far ho (by decide)) (by omega),λb e=>if_neg (by have:=(ho.lt b e).1;omega)⟩⟩
 ·exact U4.grown hg U4.size (λk e=>by injection e;omega)
theorem fs (v:IV) (m:Img) (w:World) (h:ImgR w w.heap.size v m) (hc:CBd m) (hfl:m.refs.length<=40):
  Calls prog 148 #[ae m v] w (vk w m):=by
 have hsn:=h.slen
 have hpn:=h.plen
 have hrn:=h.rlen
 have hfn:=h.flen
 have h40:=hc.slots
 have h1:=hc.one
 have h4:=hc.snaps
 have hr4:=hc.root
 have hfle:v.fn<=1000000:=by omega
 have hrle:v.rn<=1000000:=by omega
 have hsle:v.sn<=40:=by omega
 have hple:v.pn<=4:=by omega
 have KRT:=zh (λW (hb:Below w.heap.size w W)=>(h.next hb).root)
 have KFT:=zh (λW (hb:Below w.heap.size w W)=>(h.next hb).refs)
 have HI:=zh h
 have HC:=zh hc
 have HSN:=zh hsn
 have HPN:=zh hpn
 obtain⟨rA,rn,rc,sA,sn,sc,fA,fn,fc,pA,pn,pc⟩:=v
 dsimp only[ae]at*
 have HB1:=aa (ac w (.cells #[.int .i64 m.guest,.slice rA rn rc,.slice sA sn sc,.slice fA fn fc,.slice pA pn pc] 34)) (ac _ (.cells #[.int .i64 0,.slice none 0 0,.slice none 0 0,.slice none 0 0,.slice none 0 0] 34))
 have HZ:=zh (ZB.new (w.alloc (.cells #[.int .i64 m.guest,.slice rA rn rc,.slice sA sn sc,.slice fA fn fc,.slice pA pn pc] 34)))
 have HX:=(Box.new w m.guest ⟨rA,rn,rc,sA,sn,sc,fA,fn,fc,pA,pn,pc⟩ 34).keep (ac _ (.cells #[.int .i64 0,.slice none 0 0,.slice none 0 0,.slice none 0 0,.slice none 0 0] 34)) (by simp)
 have hz:w.heap.size<((w.alloc (.cells #[.int .i64 m.guest,.slice rA rn rc,.slice sA sn sc,.slice fA fn fc,.slice pA pn pc] 34)).alloc (.cells #[.int .i64 0,.slice none 0 0,.slice none 0 0,.slice none 0 0,.slice none 0 0] 34)).heap.size:=by simp<;>omega
 have hz2:w.heap.size+2<=((w.alloc (.cells #[.int .i64 m.guest,.slice rA rn rc,.slice sA sn sc,.slice fA fn fc,.slice pA pn pc] 34)).alloc (.cells #[.int .i64 0,.slice none 0 0,.slice none 0 0,.slice none 0 0,.slice none 0 0] 34)).heap.size:=by simp<;>omega
 rw[World.size_alloc]at HZ
 clear h hc hsn hpn hrn hfn
 go_enter func148,ntmps148
 go_upto_region 1 with fail
 generalize hwa:(w.alloc (.cells #[.int .i64 m.guest,.slice rA rn rc,.slice sA sn sc,.slice fA fn fc,.slice pA pn pc] 34)).alloc (.cells #[.int .i64 0,.slice none 0 0,.slice none 0 0,.slice none 0 0,.slice none 0 0] 34)=wa at*
 have HXw:=zh HX
 obtain⟨b0,b1,b2,b3,b4⟩:=HX
 dsimp only at b0 b1 b2 b3 b4
 have hzz:w.heap.size<=wa.heap.size:=by omega
 clear hwa
 go_cut [3] (λs3 wx=>Df wa m s3 wx)
 case first=>
  have HBd:Hid (Below wa.heap.size wa wa.drew):=zh (Below.refl _ _).drew
  go_region_held3 (λw'=>w'.cell? ⟨w.heap.size,0,none⟩=some (.int .i64 m.guest)/\w'.cell? ⟨w.heap.size,1,none⟩=some (.slice rA rn rc)/\w'.cell? ⟨w.heap.size,2,none⟩=some (.slice sA sn sc)/\w'.cell? ⟨w.heap.size,3,none⟩=some (.slice fA fn fc)/\w'.cell? ⟨w.heap.size,4,none⟩=some (.slice pA pn pc)/\Below wa.heap.size wa w')
   (first|(with_reducible assumption)|((repeat (first|(with_reducible apply cG hz hb4)|(with_reducible apply cG hz hb3)|(with_reducible apply pI hz;(have s4:=hb4.size;have s3:=hb3.size;(try simp only[World.size_drew]at s4 s3);(try simp only[World.size_alloc]at s4 s3);omega))|(with_reducible apply jO hz)|(with_reducible apply pp)));first|(with_reducible assumption)|(go_split_ands;refine⟨?_,?_,?_,?_,?_,?_⟩<;>with_reducible assumption)|(refine⟨?_,?_,?_,?_,?_,?_⟩<;>first|assumption|exact HBd.o|exact Below.refl _ _))|(refine⟨?_,?_,?_,?_,?_,?_⟩<;>first|assumption|exact HBd.o|exact Below.refl _ _))
   (first|(refine kg rfl _ _ rfl rfl _ rfl _ _ _ rfl _ (KRT.o _ ?_) ?_ ?_ ?_;(focus (refine HB1.trans (Below.mono (B:=wa.heap.size) ?_ hzz);(first|with_reducible assumption|(go_split_ands;with_reducible assumption)));done);(focus omega);(focus (repeat (first|(with_reducible apply EB.new';(first|rfl|(simp only[World.size_alloc];done)|((simp only[World.size_drew]);(try simp only[World.size_alloc]);done)))|(with_reducible apply EB.alloc)|(with_reducible apply EB.drew)|(with_reducible apply EB.nextH hb3)));done);intro A3 c3 w3 ho3 hb3 hc3 hm3;(have V3:Below wa.heap.size wa w3:=aa (by(first|with_reducible assumption|(go_split_ands;with_reducible assumption))) hb3))|(refine vW (.tmp 3) _ rfl rfl _ _ rfl rfl _ rfl _ _ _ rfl ?_ _ ((KFT.o _ ?_)) ?_ ?_ ?_;(focus (repeat (first|(with_reducible apply ZB.new';(first|rfl|(simp only[World.size_alloc];done)|((simp only[World.size_drew]);(try simp only[World.size_alloc]);done)))|(with_reducible apply ZB.alloc')|(with_reducible apply ZB.drew')|(with_reducible apply ZB.nextH hb3)));done);(focus (refine HB1.trans (Below.mono (B:=wa.heap.size) ?_ hzz);(first|with_reducible assumption|(go_split_ands;with_reducible assumption)));done);(focus omega);(focus (repeat (first|(with_reducible apply EB.new';(first|rfl|(simp only[World.size_alloc];done)|((simp only[World.size_drew]);(try simp only[World.size_alloc]);done)))|(with_reducible apply EB.alloc)|(with_reducible apply EB.drew)|(with_reducible apply EB.nextH hb3)));done);intro A4 c4 w4 ho4 hb4 hc4 hm4 Z4;(have V4:Below wa.heap.size wa w4:=aa (by(first|with_reducible assumption|(go_split_ands;with_reducible assumption))) hb4);(obtain⟨z0,z1,z2,z3,z4⟩:=Z4.cells);(obtain⟨y0,y1,y2,y3,y4⟩:=Z4.froz))|(refine kg rfl _ _ rfl rfl _ rfl _ _ _ rfl _ (KFT.o _ ?_) ?_ ?_ ?_;(focus (refine HB1.trans (Below.mono (B:=wa.heap.size) ?_ hzz);(first|with_reducible assumption|(go_split_ands;with_reducible assumption)));done);(focus omega);(focus (repeat (first|(with_reducible apply EB.new';(first|rfl|(simp only[World.size_alloc];done)|((simp only[World.size_drew]);(try simp only[World.size_alloc]);done)))|(with_reducible apply EB.alloc)|(with_reducible apply EB.drew)|(with_reducible apply EB.nextH hb3)));done);intro A4 c4 w4 ho4 hb4 hc4 hm4;(have V4:Below wa.heap.size wa w4:=aa (by(first|with_reducible assumption|(go_split_ands;with_reducible assumption))) hb4)))
  all_goals
   go_wp2_with fail
   go_meet
   have s3:=hb3.size
   have s4:=hb4.size
   have v3:=V3.size
   have G4:Below w3.heap.size w3 w4:=aa (by(repeat (first|exact Below.refl _ _|refine aa ?_ (ac _ _)))) hb4
   (try simp only[World.size_drew]at s3 s4)
   (try simp only[World.size_alloc]at s3 s4)
   first
   |exact tQ ho3 ho4 hc3 hm3 hc4 hm4 (by((try simp only[World.size_drew]);(try simp only[World.size_alloc]);omega)) (by((try simp only[World.size_drew]);(try simp only[World.size_alloc]);omega)) G4 hb3.size V4 hrle hfle (World.grownBy_alloc w4 _ _) (by((try simp only[World.size_drew]);(try simp only[World.size_alloc]);omega)) (λh=>absurd h (by omega)) (Box.new w4 m.guest ⟨A3,rn,c3,none,0,0,A4,fn,c4,none,0,0⟩ 34) (BoxB.new w4 _)
   |exact tQ ho3 ho4 hc3 hm3 hc4 hm4 (by((try simp only[World.size_drew]);(try simp only[World.size_alloc]);omega)) (by((try simp only[World.size_drew]);(try simp only[World.size_alloc]);omega)) G4 hb3.size V4 hrle hfle (dr Z4.box.1 Z4.box.2 m.guest ⟨A3,rn,c3,none,0,0,A4,fn,c4,none,0,0⟩).2.2 (by((try simp only[World.size_drew]);(try simp only[World.size_alloc]);omega)) (λ_=>Z4.box.1.ty) (dr Z4.box.1 Z4.box.2 m.guest ⟨A3,rn,c3,none,0,0,A4,fn,c4,none,0,0⟩).1 (dr Z4.box.1 Z4.box.2 m.guest ⟨A3,rn,c3,none,0,0,A4,fn,c4,none,0,0⟩).2.1
 case rest=>
  obtain⟨bo,A3,n3,c3,A4,n4,c4,tg0,rfl,HO0,hbx,hBB,hbo,hBw⟩:=hcut
  obtain⟨is0,his,hsz0,hsz1,hsz2⟩:=info_parts infoSlot
  obtain⟨ip0,hip,hpz0,hpz1,hpz2⟩:=info_parts infoSnap
  have HP0:=zh HO0
  have HBX:=zh hbx
  have HZA:=zh (show ZB wa (w.heap.size+1)from HZ.o)
  clear HO0 b0 b1 b2 b3 b4 KRT KFT hbx HZ
  go_wp2_with fail
  go_loopw [4] (λi wr=>∃(k:Nat) (sA':Option Addr) (sc':Nat) (tg:Nat->Nat) (q:List SV),k<=sn/\i=.int .i64 k/\OwnI wr wa.heap.size tg ⟨A3,n3,c3,sA',k,sc',A4,n4,c4,none,0,0⟩ q [] {m with slots:=m.slots.take k,snaps:=[]}/\Box wr bo m.guest ⟨A3,n3,c3,sA',k,sc',A4,n4,c4,none,0,0⟩/\BoxB wr bo/\Below wa.heap.size wa wr) (λi _=>sn-(intOf i).toNat)
  case atStart=>exact⟨0,none,0,tg0,[],Nat.zero_le _,rfl,HP0.o,HBX.o,hBB,hBw⟩
  case round=>
   obtain⟨k,sA',sc',tg,q,hk,rfl,ho,hbx,hBr,hbw⟩:=hrel
   have HO:=zh ho
   have HBR:=zh hbx
   clear ho hbx hBB hBw
   have X:=HXw.o.keep hbw (by omega)
   obtain⟨b0,b1,b2,b3,b4⟩:=X
   dsimp only at b0 b1 b2 b3 b4
   have TW:=HB1.trans (hbw.mono hzz)
   by_cases hlt:k<sn
   ·obtain⟨b,o,s,tA,tn,tc,rfl,hb,hx,d0,d1,d2,hsv⟩:=HI.o.slots.at_ (k:=k) hlt
    have d0':=(TW.cell (p:=⟨b,o+k*3,none⟩) hb).trans d0
    have d1':=(TW.cell (p:=⟨b,o+k*3+1,none⟩) hb).trans d1
    have d2':=(TW.cell (p:=⟨b,o+k*3+2,none⟩) hb).trans d2
    have HTK:=zh (show m.slots.take (k+1)=m.slots.take k++[s]from by rw[List.take_add_one,hx];rfl)
    have ht4:tn<=4:=by have:=HC.o.tables s (List.mem_of_getElem? hx);have:=hsv.table.len;omega
    have HSV:=zh hsv
    have e0:(0:Int)<=(k:Int):=by omega
    have e1:(k:Int)<(sn:Int):=by omega
    have hbol:=hBr.ty.lt
    clear hx d0 d1 d2 hsv
    by_cases ht0:tn=0
    ·subst ht0
     have W5:=ac wr (.cells #[.int .i64 s.kind,.string s.data,.slice tA 0 tc] 108)
     have O5:=HO.o.next W5
     obtain⟨A2,c2,w9,q1,q2,q3,q4,q5,q6,_⟩:=cK (P:=prog) (wr.alloc (.cells #[.int .i64 s.kind,.string s.data,.slice tA 0 tc] 108)) wa.heap.size 31 31 108 is0 _ 3 48 underlying31 his hsz0 hsz1 hsz2 rfl (by omega) _ _ _ O5.slots #[.int .i64 s.kind,.string s.data,.slice tA 0 tc] rfl
      (by intro u hu;simp at hu;rcases hu with rfl|rfl|rfl<;>rfl) (by show(k+1)*48<=_;omega) (by show k+1<=_;unfold maxLen;omega) (Nat.le_trans hbw.size W5.size)
     dsimp only at q1
     simp only[World.size_alloc]at q1
     have HR:=zh q1
     have W9:=ac (wr.alloc (.cells #[.int .i64 s.kind,.string s.data,.slice tA 0 tc] 108)) (.cells #[.int .i64 s.kind,.string s.data,.slice tA 0 tc] 108)
     have O9:=(O5.next W9).pushSlot (x:=⟨s,tA,0,tc⟩) q2 q6 q4 q5 (by show k<=_;omega) HSV.o.data ⟨Nat.zero_le _,⟨by show 0<=_;omega,HSV.o.cap.2⟩,.inl ⟨rfl,List.eq_nil_of_length_eq_zero HSV.o.table.len,.inl (by omega)⟩⟩
     have hbo8:some bo≠(Value.slice sA' k sc').ownBlock:= λe=>(hBr.ty.ne (au HO.o.slots e.symm) (by decide)) rfl
     have BB9:=((hBr.next W5).next W9).kept q6 hbo8
     have X8:=HBR.o.keep W5 hbol
     obtain⟨f0,f1,f2,f3,f4⟩:=(X8.keep W9 (Nat.lt_of_lt_of_le hbol W5.size)).kept q6 hbo8
     obtain⟨g0,g1,g2,g3,g4⟩:=X8
     dsimp only at f0 f1 f2 f3 f4 g0 g1 g2 g3 g4
     have y2:=BB9.fz 2
     have hgs:=ai w9 bo 2 (.slice A2 (k+1) c2)
     have OA:=O9.kept hgs BB9.ty (by decide) (by decide) (by decide)
     have BXA:Box (w9.setCell ⟨bo,2,none⟩ (.slice A2 (k+1) c2)) bo m.guest ⟨A3,n3,c3,A2,k+1,c2,A4,n4,c4,none,0,0⟩:=by
      refine⟨?_,?_,?_,?_,?_⟩<;>go_simp
     have BBA:=BB9.set 2 (.slice A2 (k+1) c2)
     have LA:=((aa hbw W5).trans q3).setCell (p:=⟨bo,2,none⟩) hbo (.slice A2 (k+1) c2)
     have HOA:=zh OA
     have HBA:=zh BXA
     clear O5 q1 q2 O9 W9 hbo8 hgs OA BXA W5
     go_wp2_with (at_builtin;refine aA rfl _ _ _ _ rfl rfl rfl rfl HR.o ?_)
     go_roundw
     case rel=>exact⟨k+1,A2,c2,tg,_,by omega,by go_num,by rw[HTK.o];exact HOA.o,HBA.o,BBA,LA⟩
     case measure=>simp[intOf];omega
    ·have ht1:(0:Int)<(tn:Int):=by omega
     have W5:=ac wr (.cells #[.int .i64 s.kind,.string s.data,.slice tA tn tc] 108)
     have W6:=ac (wr.alloc (.cells #[.int .i64 s.kind,.string s.data,.slice tA tn tc] 108)) (.cells #[] 3)
     have EB6:EB ((wr.alloc (.cells #[.int .i64 s.kind,.string s.data,.slice tA tn tc] 108)).alloc (.cells #[] 3)) (wr.heap.size+1):=EB.new' (by simp)
     obtain⟨A7,c7,w7,r1,r2,r3,r4,r5⟩:=jI _ _ EB6 tA tn tc s.table (((Rd.next HSV.o.table TW).next W5).next W6) (by omega)
     have HR7:=zh r1
     have TB7:=TabO.made (base:=wa.heap.size) (tg:=tg) (t:=2*k+4) r2 (by have:=hbw.size;have:=W5.size;have:=W6.size;omega) (by omega) r4 r5
     have O7:=(((HO.o.next W5).next W6).retag (tg':= λg=>if((wr.alloc (.cells #[.int .i64 s.kind,.string s.data,.slice tA tn tc] 108)).alloc (.cells #[] 3)).heap.size<=g then 2*k+4 else tg g) (λb' hb'=>if_neg (by omega))).next r3
     generalize (λg=>if((wr.alloc (.cells #[.int .i64 s.kind,.string s.data,.slice tA tn tc] 108)).alloc (.cells #[] 3)).heap.size<=g then 2*k+4 else tg g)=tg7 at*
     have t5:= λj=>cell_of_row (wr.alloc (.cells #[.int .i64 s.kind,.string s.data,.slice tA tn tc] 108)) wr.heap.size j _ _ _ (heap_alloc_new wr _)
     have l5:wr.heap.size<(wr.alloc (.cells #[.int .i64 s.kind,.string s.data,.slice tA tn tc] 108)).heap.size:=by simp
     have W57:=aa W6 r3
     have W07:=aa W5 W57
     have u0:=(W57.cell (p:=⟨wr.heap.size,0,none⟩) l5).trans (t5 0)
     have u1:=(W57.cell (p:=⟨wr.heap.size,1,none⟩) l5).trans (t5 1)
     have u2:=(W57.cell (p:=⟨wr.heap.size,2,none⟩) l5).trans (t5 2)
     have x2:=(W57.frozen (p:=⟨wr.heap.size,2,none⟩) l5).trans (frozen_of_row (wr.alloc (.cells #[.int .i64 s.kind,.string s.data,.slice tA tn tc] 108)) wr.heap.size 2 _ _ (heap_alloc_new wr _))
     have T5T:TypeB w7 wr.heap.size 108:=(show TypeB (wr.alloc (.cells #[.int .i64 s.kind,.string s.data,.slice tA tn tc] 108)) wr.heap.size 108 from⟨_,_,heap_alloc_new wr _⟩).next W57
     simp only[List.getElem?_toArray,List.getElem?_cons_zero,List.getElem?_cons_succ]at u0 u1 u2
     have hg8:=ai w7 wr.heap.size 2 (.slice A7 tn c7)
     have hsd:some wr.heap.size≠(Value.slice sA' k sc').ownBlock:= λe=>by have:=(HO.o.slots.lt _ e.symm).2;omega
     have O8:=O7.keptAt hg8 T5T (by decide) (λe=>hsd e.symm) (by simp[Value.ownBlock])
     have TB8:=TB7.kept hg8 (λb' e hl=>.inl ⟨_,by injection e with e;subst e;exact T5T,by decide⟩)
     have L8:Below wa.heap.size wa (w7.setCell ⟨wr.heap.size,2,none⟩ (.slice A7 tn c7)):=(aa hbw W07).setCell (p:=⟨wr.heap.size,2,none⟩) hbw.size _
     obtain⟨A2,c2,w9,q1,q2,q3,q4,q5,q6,_⟩:=cK (P:=prog) (w7.setCell ⟨wr.heap.size,2,none⟩ (.slice A7 tn c7)) wa.heap.size 31 31 108 is0 _ 3 48 underlying31 his hsz0 hsz1 hsz2 rfl (by omega) _ _ _ O8.slots #[.int .i64 s.kind,.string s.data,.slice A7 tn c7] rfl
      (by intro u hu;simp at hu;rcases hu with rfl|rfl|rfl<;>rfl) (by show(k+1)*48<=_;omega) (by show k+1<=_;unfold maxLen;omega) L8.size
     dsimp only at q1
     simp only[World.size_setCell]at q1
     have HR:=zh q1
     have W9:=ac (w7.setCell ⟨wr.heap.size,2,none⟩ (.slice A7 tn c7)) (.cells #[.int .i64 s.kind,.string s.data,.slice A7 tn c7] 108)
     have O9:=(O8.next W9).pushSlot (x:=⟨s,A7,tn,c7⟩) q2 q6 q4 q5 (by show k<=_;omega) HSV.o.data (TB8.next W9)
     have hbo8:some bo≠(Value.slice sA' k sc').ownBlock:= λe=>(hBr.ty.ne (au HO.o.slots e.symm) (by decide)) rfl
     have hbo5:some bo≠some wr.heap.size:= λe=>by injection e;omega
     have BB9:=(((hBr.next W07).kept hg8 hbo5).next W9).kept q6 hbo8
     have hbol8:bo<(w7.setCell ⟨wr.heap.size,2,none⟩ (.slice A7 tn c7)).heap.size:=((hBr.next W07).kept hg8 hbo5).ty.lt
     have X8:=((HBR.o.keep W07 hbol).kept hg8 hbo5)
     obtain⟨f0,f1,f2,f3,f4⟩:=(X8.keep W9 hbol8).kept q6 hbo8
     obtain⟨g0,g1,g2,g3,g4⟩:=X8
     dsimp only at f0 f1 f2 f3 f4 g0 g1 g2 g3 g4
     have y2:=BB9.fz 2
     have hgs:=ai w9 bo 2 (.slice A2 (k+1) c2)
     have OA:=O9.kept hgs BB9.ty (by decide) (by decide) (by decide)
     have BXA:Box (w9.setCell ⟨bo,2,none⟩ (.slice A2 (k+1) c2)) bo m.guest ⟨A3,n3,c3,A2,k+1,c2,A4,n4,c4,none,0,0⟩:=by
      refine⟨?_,?_,?_,?_,?_⟩<;>go_simp
     have BBA:=BB9.set 2 (.slice A2 (k+1) c2)
     have LA:=(L8.trans q3).setCell (p:=⟨bo,2,none⟩) hbo (.slice A2 (k+1) c2)
     have HOA:=zh OA
     have HBA:=zh BXA
     clear r1 r2 TB7 O7 W57 W07 hsd O8 TB8 q1 q2 O9 W9 hbo8 hbo5 hgs OA BXA hg8 t5 W5 W6 EB6
     go_wp2_with (first|(at_builtin;refine aA rfl _ _ _ _ rfl rfl rfl rfl HR7.o ?_)|(at_builtin;refine aA rfl _ _ _ _ rfl rfl rfl rfl HR.o ?_))
     go_roundw
     case rel=>exact⟨k+1,A2,c2,tg7,_,by omega,by go_num,by rw[HTK.o];exact HOA.o,HBA.o,BBA,LA⟩
     case measure=>simp[intOf];omega
   ·have hall:m.slots.take k=m.slots:=List.take_of_length_le (by have:=HSN.o;omega)
    obtain rfl:k=sn:=by omega
    rw[hall]at HO
    clear hall
    go_wp2_with fail
    clear b0 b1 b2 b3 b4
    have HO1:=zh HO.o
    have HB1R:=zh HBR.o
    go_loopw [6] (λi wr=>∃(l:Nat) (pA':Option Addr) (pc':Nat) (tg:Nat->Nat) (p:List PV),l<=pn/\i=.int .i64 l/\OwnI wr wa.heap.size tg ⟨A3,n3,c3,sA',k,sc',A4,n4,c4,pA',l,pc'⟩ q p {m with slots:=m.slots,snaps:=m.snaps.take l}/\Box wr bo m.guest ⟨A3,n3,c3,sA',k,sc',A4,n4,c4,pA',l,pc'⟩/\BoxB wr bo/\Below wa.heap.size wa wr) (λi _=>pn-(intOf i).toNat)
    case atStart=>exact⟨0,none,0,tg,[],Nat.zero_le _,rfl,HO1.o,HB1R.o,hBr,hbw⟩
    case round=>
     clear HO HBR hBr hbw TW HO1 HB1R
     obtain⟨l,pA',pc',tg,p,hl,rfl,ho,hbx,hBr,hbw⟩:=hrel
     have HO:=zh ho
     have HBR:=zh hbx
     clear ho hbx
     have X:=HXw.o.keep hbw (by omega)
     obtain⟨b0,b1,b2,b3,b4⟩:=X
     dsimp only at b0 b1 b2 b3 b4
     have TW:=HB1.trans (hbw.mono hzz)
     by_cases hlt:l<pn
     ·obtain⟨b,o,s,tA,tn,tc,rfl,hb,hx,d0,d1,d2,hsv⟩:=HI.o.snaps.at_ (k:=l) hlt
      have d0':=(TW.cell (p:=⟨b,o+l*3,none⟩) hb).trans d0
      have d1':=(TW.cell (p:=⟨b,o+l*3+1,none⟩) hb).trans d1
      have d2':=(TW.cell (p:=⟨b,o+l*3+2,none⟩) hb).trans d2
      have HTK:=zh (show m.snaps.take (l+1)=m.snaps.take l++[s]from by rw[List.take_add_one,hx];rfl)
      have ht4:tn<=4:=by have:=HC.o.roots s (List.mem_of_getElem? hx);have:=hsv.root.len;omega
      have HSV:=zh hsv
      have e0:(0:Int)<=(l:Int):=by omega
      have e1:(l:Int)<(pn:Int):=by omega
      have hbol:=hBr.ty.lt
      clear hx d0 d1 d2 hsv
      have W5:=ac wr (.cells #[.string s.name,.int .i64 s.guest,.slice tA tn tc] 102)
      have W6:=ac (wr.alloc (.cells #[.string s.name,.int .i64 s.guest,.slice tA tn tc] 102)) (.cells #[] 3)
      have EB6:EB ((wr.alloc (.cells #[.string s.name,.int .i64 s.guest,.slice tA tn tc] 102)).alloc (.cells #[] 3)) (wr.heap.size+1):=EB.new' (by simp)
      obtain⟨A7,c7,w7,r1,r2,r3,r4,r5⟩:=jI _ _ EB6 tA tn tc s.root (((Rd.next HSV.o.root TW).next W5).next W6) (by omega)
      have HR7:=zh r1
      have TB7:=TabO.made (base:=wa.heap.size) (tg:=tg) (t:=2*l+5) r2 (by have:=hbw.size;have:=W5.size;have:=W6.size;omega) (by omega) r4 r5
      have O7:=(((HO.o.next W5).next W6).retag (tg':= λg=>if((wr.alloc (.cells #[.string s.name,.int .i64 s.guest,.slice tA tn tc] 102)).alloc (.cells #[] 3)).heap.size<=g then 2*l+5 else tg g) (λb' hb'=>if_neg (by omega))).next r3
      generalize (λg=>if((wr.alloc (.cells #[.string s.name,.int .i64 s.guest,.slice tA tn tc] 102)).alloc (.cells #[] 3)).heap.size<=g then 2*l+5 else tg g)=tg7 at*
      have t5:= λj=>cell_of_row (wr.alloc (.cells #[.string s.name,.int .i64 s.guest,.slice tA tn tc] 102)) wr.heap.size j _ _ _ (heap_alloc_new wr _)
      have l5:wr.heap.size<(wr.alloc (.cells #[.string s.name,.int .i64 s.guest,.slice tA tn tc] 102)).heap.size:=by simp
      have W57:=aa W6 r3
      have W07:=aa W5 W57
      have u0:=(W57.cell (p:=⟨wr.heap.size,0,none⟩) l5).trans (t5 0)
      have u1:=(W57.cell (p:=⟨wr.heap.size,1,none⟩) l5).trans (t5 1)
      have u2:=(W57.cell (p:=⟨wr.heap.size,2,none⟩) l5).trans (t5 2)
      have x2:=(W57.frozen (p:=⟨wr.heap.size,2,none⟩) l5).trans (frozen_of_row (wr.alloc (.cells #[.string s.name,.int .i64 s.guest,.slice tA tn tc] 102)) wr.heap.size 2 _ _ (heap_alloc_new wr _))
      have T5T:TypeB w7 wr.heap.size 102:=(show TypeB (wr.alloc (.cells #[.string s.name,.int .i64 s.guest,.slice tA tn tc] 102)) wr.heap.size 102 from⟨_,_,heap_alloc_new wr _⟩).next W57
      simp only[List.getElem?_toArray,List.getElem?_cons_zero,List.getElem?_cons_succ]at u0 u1 u2
      have hg8:=ai w7 wr.heap.size 2 (.slice A7 tn c7)
      have hsd:some wr.heap.size≠(Value.slice pA' l pc').ownBlock:= λe=>by have:=(HO.o.snaps.lt _ e.symm).2;omega
      have hsl:(Value.slice sA' k sc').ownBlock≠some wr.heap.size:= λe=>by have:=(HO.o.slots.lt _ e).2;omega
      have O8:=O7.keptAt hg8 T5T (by decide) hsl (λe=>hsd e.symm)
      have TB8:=TB7.kept hg8 (λb' e hl=>.inl ⟨_,by injection e with e;subst e;exact T5T,by decide⟩)
      have L8:Below wa.heap.size wa (w7.setCell ⟨wr.heap.size,2,none⟩ (.slice A7 tn c7)):=(aa hbw W07).setCell (p:=⟨wr.heap.size,2,none⟩) hbw.size _
      obtain⟨A2,c2,w9,q1,q2,q3,q4,q5,q6,_⟩:=cK (P:=prog) (w7.setCell ⟨wr.heap.size,2,none⟩ (.slice A7 tn c7)) wa.heap.size 32 32 102 ip0 _ 3 48 underlying32 hip hpz0 hpz1 hpz2 rfl (by omega) _ _ _ O8.snaps #[.string s.name,.int .i64 s.guest,.slice A7 tn c7] rfl
       (by intro u hu;simp at hu;rcases hu with rfl|rfl|rfl<;>rfl) (by show(l+1)*48<=_;omega) (by show l+1<=_;unfold maxLen;omega) L8.size
      dsimp only at q1
      simp only[World.size_setCell]at q1
      have HR:=zh q1
      have W9:=ac (w7.setCell ⟨wr.heap.size,2,none⟩ (.slice A7 tn c7)) (.cells #[.string s.name,.int .i64 s.guest,.slice A7 tn c7] 102)
      have O9:=(O8.next W9).pushSnap (x:=⟨s,A7,tn,c7⟩) q2 q6 q4 q5 (by show l<=_;omega) HSV.o.name (TB8.next W9)
      have hbo8:some bo≠(Value.slice pA' l pc').ownBlock:= λe=>(hBr.ty.ne (au HO.o.snaps e.symm) (by decide)) rfl
      have hbo5:some bo≠some wr.heap.size:= λe=>by injection e;omega
      have BB9:=(((hBr.next W07).kept hg8 hbo5).next W9).kept q6 hbo8
      have hbol8:bo<(w7.setCell ⟨wr.heap.size,2,none⟩ (.slice A7 tn c7)).heap.size:=((hBr.next W07).kept hg8 hbo5).ty.lt
      have X8:=((HBR.o.keep W07 hbol).kept hg8 hbo5)
      obtain⟨f0,f1,f2,f3,f4⟩:=(X8.keep W9 hbol8).kept q6 hbo8
      obtain⟨g0,g1,g2,g3,g4⟩:=X8
      dsimp only at f0 f1 f2 f3 f4 g0 g1 g2 g3 g4
      have y2:=BB9.fz 4
      have hgs:=ai w9 bo 4 (.slice A2 (l+1) c2)
      have OA:=O9.kept hgs BB9.ty (by decide) (by decide) (by decide)
      have BXA:Box (w9.setCell ⟨bo,4,none⟩ (.slice A2 (l+1) c2)) bo m.guest ⟨A3,n3,c3,sA',k,sc',A4,n4,c4,A2,l+1,c2⟩:=by
       refine⟨?_,?_,?_,?_,?_⟩<;>go_simp
      have BBA:=BB9.set 4 (.slice A2 (l+1) c2)
      have LA:=(L8.trans q3).setCell (p:=⟨bo,4,none⟩) hbo (.slice A2 (l+1) c2)
      have HOA:=zh OA
      have HBA:=zh BXA
      clear r1 r2 TB7 O7 W57 W07 hsd O8 TB8 q1 q2 O9 W9 hbo8 hbo5 hgs OA BXA hg8 t5 W5 W6 EB6 hsl
      go_wp2_with (first|(at_builtin;refine aA rfl _ _ _ _ rfl rfl rfl rfl HR7.o ?_)|(at_builtin;refine aA rfl _ _ _ _ rfl rfl rfl rfl HR.o ?_))
      go_roundw
      case rel=>exact⟨l+1,A2,c2,tg7,_,by omega,by go_num,by rw[HTK.o];exact HOA.o,HBA.o,BBA,LA⟩
      case measure=>simp[intOf];omega
     ·have hall:m.snaps.take l=m.snaps:=List.take_of_length_le (by have:=HPN.o;omega)
      rw[hall]at HO
      clear hall
      have hlt1:w.heap.size+1<wa.heap.size:=by omega
      have Z9:ZB wr (w.heap.size+1):=⟨(hbw.block _ hlt1).trans HZA.o.heap⟩
      have h5:=dr Z9.box.1 Z9.box.2 m.guest ⟨A3,n3,c3,sA',k,sc',A4,n4,c4,pA',l,pc'⟩
      have hfin:=zh ((HO.o.kept h5.2.2 Z9.box.1.ty (by decide) (by decide) (by decide)).lower hzz)
      have hbf:=zh (TW.grown h5.2.2 TW.size (λj e=>by injection e with e;omega))
      have HK:=zh h5.1
      obtain⟨y0,y1,y2,y3,y4⟩:=Z9.cells
      obtain⟨x0,x1,x2,x3,x4⟩:=Z9.froz
      obtain⟨g0,g1,g2,g3,g4⟩:=HBR.o
      dsimp only at g0 g1 g2 g3 g4
      clear h5
      go_wp2_with fail
      obtain⟨k0,k1,k2,k3,k4⟩:=HK.o
      refine bodyPost_ret (v:=ae m ⟨A3,n3,c3,sA',k,sc',A4,n4,c4,pA',l,pc'⟩) ?_ rfl ⟨_,tg,q,p,rfl,hfin.o,hbf.o⟩
      simp[results,results148,go_sem,k0,k1,k2,k3,k4]
end
end Go.Proofs.YtdbneghfbkjinaaGreatDoor
