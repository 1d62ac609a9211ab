/- Texts of the proof of deskPlays_holds: VPen, VGlass. Conditions: as each text says. -/
import Derived.Test.YtdbneghfbkjinaaGreatDoorDA1
import Derived.Test.YtdbneghfbkjinaaGreatDoorDA16
set_option maxRecDepth 100000
set_option maxHeartbeats 1000000
namespace Go.Proofs.YtdbneghfbkjinaaGreatDoor
section
open Go.Proofs.Tryz
open Go.RowKit Sl
theorem jv {P:Program} {w:World} {ops:Array Oper} {rest:List Oper} {o:Oper} {a:Act} {Q:Exit->Act->World->Prop} (hgd:o.guard=none) (s x:Operand) (t t2 ty:TypeId)
  (ho:o.op=.call {callee:=.builtin .append,args:=#[s,x],argTypes:=#[t,t2]}) (hty:o.type=ty) {v y v':Value} {w':World} (hs:a.eval s=v) (hx:a.eval x=y)
  (hrun:(Builtin.append_ #[t,t2] ty #[v,y]).run P w=.ok v' w') (h:wpList P ops Q rest (a.put o.dst v') w'):wpList P ops Q (o::rest) a w:=
 wpList_plain hgd λ_ hK=>by
  subst hty
  unfold Oper.wp execOp
  simp only[ho,resolve,invoke,builtin,Sem.run_bind,Sem.run_pure,Result.andThen_ok,List.map_toArray,List.map_cons,List.map_nil,hs,hx,hrun]
  exact hK _ _ h
theorem yp {P:Program} {W:World} {ops:Array Oper} {o:Oper} {a:Act} {K:Act->World->Prop} {Q:Exit->Act->World->Prop} {E:Prop} (hgd:o.guard=none) (s x:Operand) (t tn ty:TypeId)
  (ho:o.op=.call {callee:=.builtin .append,args:=#[s,x],argTypes:=#[t,tn]}) (hty:o.type=ty) {v y v':Value} {w':World} (hs:a.eval s=v) (hx:a.eval x=y)
  (hrun:(Builtin.append_ #[t,tn] ty #[v,y]).run P W=.ok v' w') (h:K (a.put o.dst v') w'):if Region.wanted o (yielded ops a.tmps)=true then Oper.wp P o a W K Q else E:=by
 have hw:Region.wanted o (yielded ops a.tmps)=true:=by simp[Region.wanted,hgd]
 rw[if_pos hw]
 subst hty
 unfold Oper.wp execOp
 simp only[ho,resolve,invoke,builtin,Sem.run_bind,Sem.run_pure,Result.andThen_ok,List.map_toArray,List.map_cons,List.map_nil,hs,hx,hrun]
 exact h
theorem kK (n:Int):((az n).toNat:Int)=n%256:=by
 unfold az
 rw[UInt8.toNat_ofNat']
 omega
theorem infoU8:(prog.info? 5).map (λi=>(i.zero,i.size,i.bytes))=some (some (.int .u8 0),1,1):=by kernel_rfl
def u8s (l:List UInt8):List Value:=l.map λb=>.int .u8 (b.toNat:Int)
theorem lF (a b:List UInt8):u8s (a++b)=u8s a++u8s b:=by simp[u8s]
theorem Cv (a:List UInt8):(u8s a).length=a.length:=by simp[u8s]
theorem Cw (l:List UInt8):∀u∈u8s l,u.oneCell'=true:=by
 intro u hu
 obtain⟨b,_,rfl⟩:=List.mem_map.1 hu
 rfl
structure VStep (base:Nat) (w w':World):Prop where
 below:Below base w w'
 keep:∀b T,TypeB w b T->T≠5->T≠124->w'.heap[b]? =w.heap[b]?
section
variable {w w' w'':World} {base pb:Nat} {l:List UInt8}
theorem VStep.refl (base:Nat) (w:World):VStep base w w:=⟨Below.refl _ _,λ_ _ _ _ _=>rfl⟩
theorem VStep.ty (h:VStep base w w') {b:Nat} {T:TypeId} (ht:TypeB w b T) (h1:T≠5) (h2:T≠124):TypeB w' b T:=by
 obtain⟨c,f,e⟩:=ht
 exact⟨c,f,(h.keep b T ⟨c,f,e⟩ h1 h2).trans e⟩
theorem VStep.trans (h:VStep base w w') (h':VStep base w' w''):VStep base w w'':=
 ⟨h.below.trans h'.below,λb T ht h1 h2=>(h'.keep b T (h.ty ht h1 h2) h1 h2).trans (h.keep b T ht h1 h2)⟩
theorem VStep.of (hb:Below w.heap.size w w') (hs:base<=w.heap.size):VStep base w w':=⟨hb.mono hs,λb _ ht _ _=>hb.block b ht.lt⟩
theorem VStep.grown {row:Option Nat} {T:TypeId} (hg:w.grownBy w' row) (hs:base<=w.heap.size) (hr:∀k,row=some k->base<=k/\TypeB w k T) (hT:T=5\/T=124):VStep base w w':=
 ⟨fI hg hs λk hk=>(hr k hk).1,λb T' ht h1 h2=>hg.block b ht.lt λe=>by
  have h3:=ht.ne (hr b e.symm).2
  rcases hT with rfl|rfl
  ·exact h3 h1 rfl
  ·exact h3 h2 rfl⟩
structure PenR (w:World) (base pb:Nat) (l:List UInt8):Prop where
 hb:base<=pb
 box:∃A c,w.heap[pb]? =some (.cells #[.slice A l.length c] 124 (0,0))/\w.ownsRow base 5 1 (.slice A l.length c) l.length (u8s l)
theorem PenR.next (h:PenR w base pb l) (hb:Below w.heap.size w w'):PenR w' base pb l:=by
 obtain⟨A,c,h1,h2⟩:=h.box
 exact⟨h.hb,A,c,(hb.block pb (za h1)).trans h1,aI h2 hb⟩
theorem PenR.size (h:PenR w base pb l):base<=w.heap.size:=by
 obtain⟨A,c,h1,h2⟩:=h.box
 have:=(za h1)
 have:=h.hb;omega
theorem PenR.store {A A':Option Addr} {c c':Nat} {l':List UInt8} (h:PenR w base pb l) (h1:w.heap[pb]? =some (.cells #[.slice A l.length c] 124 (0,0))) (ho:w.ownsRow base 5 1 (.slice A l.length c) l.length (u8s l))
  (hg:w.grownBy w' (Value.slice A l.length c).ownBlock) (ho':w'.ownsRow base 5 1 (.slice A' l'.length c') l'.length (u8s l')):
  w'.cell? ⟨pb,0,none⟩=some (.slice A l.length c)/\w'.frozen? ⟨pb,0,none⟩=false/\PenR (w'.setCell ⟨pb,0,none⟩ (.slice A' l'.length c')) base pb l'/\VStep base w (w'.setCell ⟨pb,0,none⟩ (.slice A' l'.length c')):=by
 have hT:TypeB w pb 124:=⟨_,_,h1⟩
 have hlt:=hT.lt
 have hne:some pb≠(Value.slice A l.length c).ownBlock:= λe=>(hT.ne (au ho e.symm) (by decide)) rfl
 have hp:=(hg.block pb hlt hne).trans h1
 have hgs:=ai w' pb 0 (.slice A' l'.length c')
 have hT':TypeB w' pb 124:=⟨_,_,hp⟩
 refine⟨cell_of_row w' pb 0 _ _ _ hp,frozen_of_row w' pb 0 _ _ hp,⟨h.hb,A',c',?_,ho'.kept hgs ?_⟩,?_⟩
 ·exact heap_setCell_same w' pb 0 _ _ _ hp
 ·exact bH ho' hT' (by decide)
 ·exact(VStep.grown (T:=5) hg h.size (λk hk=>⟨(ho.lt k hk).1,au ho hk⟩) (.inl rfl)).trans
   (VStep.grown (T:=124) hgs (by have:=h.size;have:=hg.size;omega) (λk hk=>by injection hk with hk;subst hk;exact⟨h.hb,hT'⟩) (.inr rfl))
end
theorem sJ (base pb:Nat) (l:List UInt8) (xs:List Int) (A:Option Addr) (n c:Nat) (w:World) (h:PenR w base pb l) (hl:l.length<=100000) (hn:n<=100000)
  (hr:∀W,VStep base w W->Rd W W.heap.size 1 A n (ah xs)):
  Calls prog 107 #[.pointer (some ⟨pb,0,none⟩),.slice A n c] w λe w'=>e=.returned (.tuple #[])/\PenR w' base pb (l++bA xs)/\VStep base w w':=by
 obtain⟨i0,hi0,hz0,hz1,hz2⟩:=info_parts infoU8
 have hxl:xs.length=n:=(hr w (VStep.refl _ _)).len
 go_enter func107,ntmps107
 go_wp2_with fail
 go_loopw [8] (λi wr=>∃k:Nat,k<=n/\i=.int .i64 k/\PenR wr base pb (l++bA (xs.take k))/\VStep base w wr) (λi _=>n-(intOf i).toNat)
 case atStart=>exact⟨0,Nat.zero_le _,rfl,by simpa[bA]using h,VStep.refl _ _⟩
 case round=>
  obtain⟨k,hk,rfl,hp,hv⟩:=hrel
  by_cases hlt:k<n
  ·obtain⟨b,o,x,rfl,hb,hx,cx⟩:=(hr wr hv).at1 hlt
   obtain⟨pA,pc,q1,q2⟩:=hp.box
   have cp:=cell_of_row wr pb 0 _ _ _ q1
   have hlen:(l++bA (xs.take k)).length<=200000:=by rw[List.length_append,dK,List.length_take];omega
   have HTK:=zh (show l++bA (xs.take (k+1))=l++bA (xs.take k)++[az x]from by rw[List.take_add_one,hx];simp[bA])
   have HE:=kK x
   generalize l++bA (xs.take k)=L at*
   obtain⟨A',c',w',r1,r2,r3,r4,r5,r6,r7⟩:=cK (P:=prog) wr base 39 39 5 i0 _ 1 1 underlying39 hi0 hz0 hz1 hz2 rfl (by omega) _ _ _ q2 #[.int .u8 (x%256)] rfl (by intro u hu;simp at hu;subst hu;rfl) (by omega) (by unfold maxLen;omega) hp.size
   have e0:(0:Int)<=(k:Int):=by omega
   have e1:(k:Int)<(n:Int):=by omega
   have hq1:=((ac wr (.cells #[.int .u8 (x%256)] 5)).block pb (za q1)).trans q1
   obtain⟨s1,s2,s3,s4⟩:=(hp.next (ac wr (.cells #[.int .u8 (x%256)] 5))).store (A':=A') (c':=c') (l':=L++[az x]) hq1 (aI q2 (ac _ _)) r6 (by
    have:(L++[az x]).length=L.length+1:=by simp
    rw[this,lF,show u8s [az x]=[.int .u8 (x%256)]from by simp[u8s,HE]];exact r2)
   rw[show(L++[az x]).length=L.length+1 from by simp]at s3 s4
   have S3:=zh s3
   have S4:=zh (hv.trans ((VStep.of (ac wr (.cells #[.int .u8 (x%256)] 5)) hp.size).trans s4))
   have HR:=zh r1
   clear hx r1 r2 q1 q2 hq1 s3 s4 hr hp hv r6 r7 HE
   generalize L.length=q at*
   go_wp2_with (at_builtin;refine aA rfl _ _ _ _ rfl rfl rfl rfl HR.o ?_)
   go_roundw
   case rel=>exact⟨k+1,by omega,by go_num,by rw[HTK.o];exact S3.o,S4.o⟩
   case measure=>simp[intOf];omega
  ·obtain rfl:k=n:=by omega
   rw[List.take_of_length_le (by omega)]at hp
   go_wp2_with fail
   go_end0
   exact⟨rfl,hp,hv⟩
theorem sK (base pb:Nat) (l:List UInt8) (s:ByteArray) (w:World) (h:PenR w base pb l) (hl:l.length<=100000) (hs:s.size<=100000):
  Calls prog 108 #[.pointer (some ⟨pb,0,none⟩),.string s] w λe w'=>e=.returned (.tuple #[])/\PenR w' base pb (l++toL s)/\VStep base w w':=by
 obtain⟨i0,hi0,hz0,hz1,hz2⟩:=info_parts infoU8
 obtain⟨pA,pc,q1,q2⟩:=h.box
 have cp:=cell_of_row w pb 0 _ _ _ q1
 obtain⟨v',w',r1,r2,r3,r4⟩:=Lib.run_append_own_string (P:=prog) w base 39 9 39 5 i0 underlying39 underlying9 hi0 hz0 hz1 hz2 _ _ _ q2 s (by unfold maxLen;omega) (by omega) h.size
 obtain⟨A',c',rfl,r5,r6⟩:=ll r2
 obtain⟨s1,s2,s3,s4⟩:=h.store (A':=A') (c':=c') (l':=l++toL s) q1 q2 r3 (by
  rw[show(l++toL s).length=l.length+s.size from by rw[List.length_append,bv],lF];exact r2)
 rw[show(l++toL s).length=l.length+s.size from by rw[List.length_append,bv]]at s3 s4
 have S3:=zh s3
 have S4:=zh s4
 have HR:=zh r1
 clear r1 r2 r3 r4 q1 q2 s3 s4 h
 generalize l.length=q at*
 go_enter func108,ntmps108
 go_wp2_with (at_builtin;refine jv rfl _ _ _ _ _ rfl rfl rfl rfl HR.o ?_)
 go_end0
 exact⟨rfl,S3.o,S4.o⟩
end
section
open Go.Proofs.Tryz
open Go.RowKit Sl
def lG:Value:=.iface 134 (.agg #[])
structure Gl (w:World) (gb:Nat) (T:TypeId) (l:List UInt8):Prop where
 heap:w.heap[gb]? =some (.cells #[.string (ofL l)] T (0,0))
section
variable {w w' w'':World} {gb:Nat} {T:TypeId} {l:List UInt8}
theorem Gl.cell (h:Gl w gb T l):w.cell? ⟨gb,0,none⟩=some (.string (ofL l)):=cell_of_row w gb 0 _ _ _ h.heap
theorem Gl.froz (h:Gl w gb T l):w.frozen? ⟨gb,0,none⟩=false:=frozen_of_row w gb 0 _ _ h.heap
theorem Gl.ty (h:Gl w gb T l):TypeB w gb T:=⟨_,_,h.heap⟩
theorem Gl.set (h:Gl w gb T l) (l':List UInt8):Gl (w.setCell ⟨gb,0,none⟩ (.string (ofL l'))) gb T l'/\w.grownBy (w.setCell ⟨gb,0,none⟩ (.string (ofL l'))) (some gb):=
 ⟨⟨heap_setCell_same w gb 0 _ _ _ h.heap⟩,ai w gb 0 _⟩
theorem Gl.next (h:Gl w gb T l) (hb:Below w.heap.size w w'):Gl w' gb T l:=⟨(hb.block gb h.ty.lt).trans h.heap⟩
theorem Gl.kept {row:Option Nat} (h:Gl w gb T l) (hg:w.grownBy w' row) (hn:some gb≠row):Gl w' gb T l:=⟨(hg.block gb h.ty.lt hn).trans h.heap⟩
theorem fi {row:Option Nat} (h:w.grownBy w' row) (hb:Below w'.heap.size w' w''):w.grownBy w'' row:=
 ⟨hb.os.trans h.os,hb.tape.trans h.tape,hb.output.trans h.output,Nat.le_trans h.size hb.size,λk hk hne=>(hb.block k (Nat.lt_of_lt_of_le hk h.size)).trans (h.block k hk hne)⟩
theorem xj (b:UInt8):wrap64 (b.toNat:Int)=(b.toNat:Int):=by
 have:=b.toNat_lt
 unfold wrap64;omega
end
def AJ {α:Type} (V:α->Value->World->Prop) (o:Option (α×List UInt8)) (gb:Nat) (w:World) (e:Ending) (w':World):Prop:=
 match o with
 |none=>e=.panicked [{v:=lG,recovered:=false}]/\w.grownBy w' (some gb)
 |some (x,r)=>(∃v,e=.returned v/\V x v w')/\Gl w' gb 129 r/\w.grownBy w' (some gb)
theorem jX (gb:Nat) (l:List UInt8) (n:Nat) (w:World) (h:Gl w gb 129 l) (hn:n<=100000):
  Calls prog 112 #[.pointer (some ⟨gb,0,none⟩),.int .i64 n] w (AJ (λx v _=>v=.string (ofL x)) (lB n l) gb w):=by
 have c:=h.cell
 have f:=h.froz
 have hs:=aT l
 by_cases hn:n<=l.length
 ·have E1:=zh (uQ l n)
  have E2:=zh (nN l n)
  have R:=zh (show lB n l=some (l.take n,l.drop n)from if_pos hn)
  have S:=zh (h.set (l.drop n))
  rw[<-hs]at hn
  clear h hs
  generalize ofL l=s at*
  have e0:(0:Int)<=(n:Int):=by omega
  have e1:(n:Int)<=(s.size:Int):=by omega
  go_enter func112,ntmps112
  go_wp2_with fail
  go_ret
  have S1:=S.o
  rw[<-E2.o]at S1
  rw[R.o]
  exact⟨⟨_,rfl,congrArg Value.string E1.o⟩,S1.1,S1.2⟩
 ·have R:=zh (show lB n l=none from if_neg hn)
  rw[<-hs]at hn
  clear h hs
  generalize ofL l=s at*
  have e1:(s.size:Int)<(n:Int):=by omega
  go_enter func112,ntmps112
  go_wp2_with fail
  rw[R.o]
  exact⟨rfl,rfl,World.grownBy.refl w _⟩
theorem io (gb:Nat) (l:List UInt8) (w:World) (h:Gl w gb 129 l):
  Calls prog 110 #[.pointer (some ⟨gb,0,none⟩)] w (AJ (λx v _=>v=.int .i64 (x:Nat)) (D0 l) gb w):=by
 have K:=zh (jX gb l 1 w h (by decide))
 clear h
 go_enter func110,ntmps110
 go_wp2_with fail
 cases l with
 |nil=>
  refine K.o.mono ?_
  rintro e w2 ⟨rfl,hg⟩
  exact⟨rfl,rfl,hg⟩
 |cons b r=>
  refine K.o.mono ?_
  rintro e w2 ⟨⟨v,rfl,rfl⟩,hG,hg⟩
  have hs1:(ofL ((b::r).take 1)).size=1:=rfl
  simp only[List.take_succ_cons,List.take_zero]at hs1⊢
  go_wp2_with fail
  go_ret
  exact⟨⟨_,rfl,congrArg (Value.int .i64) (xj b)⟩,hG,hg⟩
def Dc (base:Nat) (x:List Int) (v:Value) (w:World):Prop:=∃A c,v=.slice A x.length c/\w.ownsRow base 3 1 (.slice A x.length c) x.length (ah x)/\x.length<=c/\c<=maxLen
theorem pJ (gb:Nat) (l:List UInt8) (n:Nat) (w:World) (h:Gl w gb 129 l) (hn:n<=100000):
  Calls prog 165 #[.pointer (some ⟨gb,0,none⟩),.int .i64 n] w (AJ (Dc w.heap.size) (jq n l) gb w):=by
 obtain⟨i0,hi0,hz0,hz1,hz2⟩:=info_parts infoInt
 have K:=zh (jX gb l n w h hn)
 by_cases hl:n<=l.length
 ·have R:=zh (show jq n l=some ((l.take n).map eo,l.drop n)from if_pos hl)
  have K':=K.o
  rw[show lB n l=some (l.take n,l.drop n)from if_pos hl]at K'
  have K2:=zh K'
  have hL:(l.take n).length=n:=by rw[List.length_take];omega
  clear K K' h hl
  generalize l.drop n=r at*
  generalize l.take n=u at*
  go_enter func165,ntmps165
  go_wp2_with fail
  refine K2.o.mono ?_
  rintro e w2 ⟨⟨v,rfl,rfl⟩,hG,hg⟩
  have hsz:=aT u
  have hcv:=run_bytes_of_string (P:=prog) w2 9 39 5 (ofL u) underlying9 underlying39 underlying5
  have hcap:=grownCap_ge w2 (ofL u).size 0 5
  generalize grownCap w2 (ofL u).size 0 5=cap at hcv hcap
  have hrow:=bytesRow_at (ofL u) cap
  generalize hW:w2.drew.alloc (.cells (bytesRow (ofL u) cap) 5 ((bytesRow (ofL u) cap).size,(bytesRow (ofL u) cap).size+1))=W1 at hcv
  have hblk:W1.heap[w2.heap.size]? =some (.cells (bytesRow (ofL u) cap) 5 ((bytesRow (ofL u) cap).size,(bytesRow (ofL u) cap).size+1)):=by rw[<-hW];exact heap_alloc_new w2.drew _
  have hbw:Below w2.heap.size w2 W1:=by rw[<-hW];exact(Below.refl w2.heap.size w2).drew.alloc (Nat.le_refl _) _
  have hlW:w2.heap.size<W1.heap.size:=(za hblk)
  have HC:=zh (show∀(k:Nat) (x:UInt8),u[k]? =some x->W1.cell? ⟨w2.heap.size,k,none⟩=some (.int .u8 (x.toNat:Int))from by
   intro k x hx
   rw[cell_of_row _ _ _ _ _ _ hblk]
   have hj:k<(ofL u).data.size:=by have:=(zl hx);simpa[ofL]using this
   rw[hrow k hj]
   have h3:=(List.getElem?_eq_some_iff.1 hx).2
   have:(ofL u).data[k]=x:=by simpa[ofL]using h3
   rw[this])
  have G1:=zh (hG.next hbw)
  have g1:=zh (fi hg hbw)
  rw[hsz,hL]at hcv hcap
  clear hrow hblk hW hG hg hsz hbw
  generalize ofL u=s at*
  go_wp2_with fail
  have hw1:=g1.o.size
  go_loopw [5,13] (λo i wr=>∃(k c':Nat) (A':Option Addr),k<=n/\i=.int .i64 k/\o=.slice A' k c'/\wr.ownsRow W1.heap.size 3 1 (.slice A' k c') k (ah ((u.take k).map eo))/\Below W1.heap.size W1 wr/\k<=c'/\c'<=maxLen) (λ_ i _=>n-(intOf i).toNat)
  case atStart=>exact⟨0,0,none,Nat.zero_le _,rfl,rfl,World.ownsRow_nil _ _ _ _,Below.refl _ _,Nat.le_refl _,by simp⟩
  case round=>
   obtain⟨k,c',A',hkg,rfl,rfl,ho,hbr,hc1,hc2⟩:=hrel
   by_cases hlt:k<n
   ·have hx:=List.getElem?_eq_getElem (show k<u.length by omega)
    generalize u[k]=x at hx
    have cx:=(hbr.cell (p:=⟨w2.heap.size,k,none⟩) hlW).trans (HC.o k x hx)
    have HG:=zh (show ah ((u.take (k+1)).map eo)=ah ((u.take k).map eo)++[.int .i64 (eo x)]from by rw[List.take_add_one,hx];simp[ah])
    have e0:(0:Int)<=(k:Int):=by omega
    have e1:(k:Int)<(n:Int):=by omega
    obtain⟨A2,c2,w4,q1,q2,q3,q4,q5,q6,_⟩:=cK (P:=prog) wr W1.heap.size 30 30 3 i0 _ 1 8 underlying30 hi0 hz0 hz1 hz2 rfl (by omega) _ _ _ ho #[.int .i64 (eo x)] rfl
     (by intro u hu;simp at hu;subst hu;rfl) (by omega) (by unfold maxLen;omega) hbr.size
    have HR:=zh q1
    have HO2:=zh q2
    have HB4:=zh (hbr.trans q3)
    have hw:=xj x
    clear q1 q2 q3 q6 ho hx
    cases hB:((x.toNat:Int)==255)
    ·have hE:eo x=(x.toNat:Int):=by unfold eo;rw[if_neg (λe=>by subst e;simp at hB)]
     rw[hE]at HR HO2 HG
     go_wp2_with (at_builtin;refine aA rfl _ _ _ _ rfl rfl rfl rfl HR.o ?_)
     go_roundw
     case rel=>exact⟨k+1,c2,A2,by omega,by go_num,rfl,by rw[HG.o];exact HO2.o,HB4.o,q4,q5⟩
     case measure=>simp[intOf];omega
    ·have hE:eo x= -1:=by unfold eo;rw[if_pos (UInt8.toNat_inj.1 (by have:(255:UInt8).toNat=255:=rfl;simp at hB;omega))]
     rw[hE]at HR HO2 HG
     go_wp2_with (at_builtin;refine aA rfl _ _ _ _ rfl rfl rfl rfl HR.o ?_)
     go_roundw
     case rel=>exact⟨k+1,c2,A2,by omega,by go_num,rfl,by rw[HG.o];exact HO2.o,HB4.o,q4,q5⟩
     case measure=>simp[intOf];omega
   ·obtain rfl:k=n:=by omega
    rw[List.take_of_length_le (by omega)]at ho
    have G3:=zh (G1.o.next hbr)
    have g3:=zh (fi g1.o hbr)
    go_wp2_with fail
    go_ret
    rw[R.o]
    have hl:(u.map eo).length=k:=by rw[List.length_map,hL]
    exact⟨⟨_,rfl,A',c',by rw[hl];rfl,by rw[hl];exact bL ho hw1,by rw[hl];exact hc1,hc2⟩,G3.o,g3.o⟩
 ·have R:=zh (show jq n l=none from if_neg hl)
  have K':=K.o
  rw[show lB n l=none from if_neg hl]at K'
  have K2:=zh K'
  clear K K' h
  go_enter func165,ntmps165
  go_wp2_with fail
  refine K2.o.mono ?_
  rintro e w2 ⟨rfl,hg⟩
  exact⟨rfl,by rw[R.o];exact⟨rfl,hg⟩⟩
def DL (base:Nat) (x:Slot) (v:Value) (w:World):Prop:=
 ∃A c,v=.agg #[.int .i64 x.kind,.string x.data,.slice A x.table.length c]/\w.ownsRow base 3 1 (.slice A x.table.length c) x.table.length (ah x.table)/\x.table.length<=c/\c<=maxLen
theorem cD {w w':World} {row:Option Nat} {b:Nat} (h:w.grownBy w' row) (hb:w.heap.size<=b) (j:Nat) (v:Value):w.grownBy (w'.setCell ⟨b,j,none⟩ v) row:=
 have g:=ai w' b j v
 ⟨g.os.trans h.os,g.tape.trans h.tape,g.output.trans h.output,Nat.le_trans h.size g.size,λk hk hne=>(g.block k (Nat.lt_of_lt_of_le hk h.size) (λe=>by injection e with e;omega)).trans (h.block k hk hne)⟩
theorem jY {w w':World} {base size n b:Nat} {e T:TypeId} {v:Value} {xs:List Value} (h:w.ownsRow base e size v n xs) (hg:w.grownBy w' (some b)) (ht:TypeB w b T) (hne:T≠e):w'.ownsRow base e size v n xs:=h.kept hg (bH h ht hne)
abbrev zS:Obj:=.cells #[.int .i64 0,.string {data:=#[]},.slice none 0 0] 108
theorem vl {w:World} {a:Nat} {p q t:Value} {T:TypeId} {fz:Nat×Nat} (h:w.heap[a]? =some (.cells #[p,q,t] T fz)) (u0 u1 u2:Value):
  (((w.setCell ⟨a,0,none⟩ u0).setCell ⟨a,1,none⟩ u1).setCell ⟨a,2,none⟩ u2).cell? ⟨a,0,none⟩=some u0/\(((w.setCell ⟨a,0,none⟩ u0).setCell ⟨a,1,none⟩ u1).setCell ⟨a,2,none⟩ u2).cell? ⟨a,1,none⟩=some u1/\
  (((w.setCell ⟨a,0,none⟩ u0).setCell ⟨a,1,none⟩ u1).setCell ⟨a,2,none⟩ u2).cell? ⟨a,2,none⟩=some u2:=by
 have y0:=cell_of_row _ _ 0 _ _ _ h
 have y1:=cell_of_row _ _ 1 _ _ _ h
 have y2:=cell_of_row _ _ 2 _ _ _ h
 simp only[List.getElem?_toArray,List.getElem?_cons_zero,List.getElem?_cons_succ]at y0 y1 y2
 refine⟨?_,?_,?_⟩<;>go_simp
theorem Dl {w w4:World} {gb a:Nat} {T:TypeId} {r:List UInt8} (g4:w.grownBy w4 (some gb)) (hG:Gl w4 gb T r) (ha:w.heap.size<=a) (hgl:gb<w.heap.size) (u0 u1 u2:Value):
  Gl (((w4.setCell ⟨a,0,none⟩ u0).setCell ⟨a,1,none⟩ u1).setCell ⟨a,2,none⟩ u2) gb T r/\w.grownBy (((w4.setCell ⟨a,0,none⟩ u0).setCell ⟨a,1,none⟩ u1).setCell ⟨a,2,none⟩ u2) (some gb):=by
 have hn:some gb≠some a:= λe=>by injection e;omega
 exact⟨((hG.kept (ai _ a 0 u0) hn).kept (ai _ a 1 u1) hn).kept (ai _ a 2 u2) hn,cD (cD (cD g4 ha 0 u0) ha 1 u1) ha 2 u2⟩
theorem yq (gb:Nat) (l:List UInt8) (w:World) (h:Gl w gb 129 l):
  Calls prog 111 #[.pointer (some ⟨gb,0,none⟩)] w (AJ (DL w.heap.size) (cR l) gb w):=by
 have hgl:=h.ty.lt
 have B1:=ac w zS
 have G1:=h.next B1
 have Z1:=heap_alloc_new w zS
 have s1:(w.alloc zS).heap.size=w.heap.size+1:=World.size_alloc _ _
 have K:=zh (io gb l _ G1)
 have g1:=fi (World.grownBy.refl w (some gb)) B1
 clear h G1 B1
 unfold zS at*
 go_enter func111,ntmps111
 go_wp2_with fail
 generalize (w.alloc (.cells #[.int .i64 0,.string {data:=#[]},.slice none 0 0] 108))=w1 at*
 cases l with
 |nil=>
  refine K.o.mono ?_
  rintro e w2 ⟨rfl,hg⟩
  exact⟨rfl,rfl,g1.trans hg⟩
 |cons b r=>
  refine K.o.mono ?_
  rintro e w2 ⟨⟨v,rfl,rfl⟩,hG,hg⟩
  have g2:=g1.trans hg
  have Z2:=(hg.block w.heap.size (by omega) (λe=>by injection e;omega)).trans Z1
  have s2:=hg.size
  have B3:=ac w2 (.cells #[.int .i64 (b.toNat:Int),.string {data:=#[]},.slice none 0 0] 108)
  have G3:=hG.next B3
  have g3:=fi g2 B3
  have Z3:=(B3.block w.heap.size (by omega)).trans Z2
  have X3:=heap_alloc_new w2 (.cells #[.int .i64 (b.toNat:Int),.string {data:=#[]},.slice none 0 0] 108)
  have s3:(w2.alloc (.cells #[.int .i64 (b.toNat:Int),.string {data:=#[]},.slice none 0 0] 108)).heap.size=w2.heap.size+1:=World.size_alloc _ _
  have x0:=cell_of_row _ _ 0 _ _ _ X3
  clear B3 hG hg K g2 g1 Z1 Z2
  have KT:=zh (jX gb r 4 _ G3 (by decide))
  have KL:=zh (pJ gb r 4 _ G3 (by decide))
  have G3:=zh G3
  generalize hK:(b.toNat:Int)=K at*
  cases h1:(K==1)
  ·cases h2:(K==2)
   ·have hb1:¬b.toNat=1:= λe=>by
     rw[show K=1 from by omega]at h1
     cases h1
    have hb2:¬b.toNat=2:= λe=>by
     rw[show K=2 from by omega]at h2
     cases h2
    have R:=zh (show cR (b::r)=some (⟨K,ByteArray.empty,[]⟩,r)from by simp only[cR];rw[if_neg hb1,if_neg hb2,hK])
    clear KT KL hK hb1 hb2
    have X0:=X3
    have y0:=x0
    have y1:=cell_of_row _ _ 1 _ _ _ X3
    have y2:=cell_of_row _ _ 2 _ _ _ X3
    have z0:=cell_of_row _ _ 0 _ _ _ Z3
    have z1:=cell_of_row _ _ 1 _ _ _ Z3
    have z2:=cell_of_row _ _ 2 _ _ _ Z3
    have k0:=frozen_of_row _ _ 0 _ _ Z3
    have k1:=frozen_of_row _ _ 1 _ _ Z3
    have k2:=frozen_of_row _ _ 2 _ _ Z3
    simp only[List.getElem?_toArray,List.getElem?_cons_zero,List.getElem?_cons_succ]at y0 y1 y2 z0 z1 z2
    clear x0 X0 X3
    go_upto_region 7 with fail
    generalize (w2.alloc (.cells #[.int .i64 K,.string {data:=#[]},.slice none 0 0] 108))=w3 at*
    go_wp2_with fail
    have F2:=Dl g3 G3.o (Nat.le_refl _) hgl (.int .i64 K) (.string {data:=#[]}) (.slice none 0 0)
    have F3:=vl Z3 (.int .i64 K) (.string {data:=#[]}) (.slice none 0 0)
    generalize (((w3.setCell ⟨w.heap.size,0,none⟩ (.int .i64 K)).setCell ⟨w.heap.size,1,none⟩ (.string {data:=#[]})).setCell ⟨w.heap.size,2,none⟩ (.slice none 0 0))=W at*
    obtain⟨c0,c1,c2⟩:=F3
    refine bodyPost_ret (v:=.agg #[.int .i64 K,.string {data:=#[]},.slice none 0 0]) ?_ rfl ?_
    ·simp[results,results111,go_sem,c0,c1,c2]
    ·rw[R.o]
     exact⟨⟨_,rfl,none,0,rfl,World.ownsRow_nil _ _ _ _,Nat.le_refl _,by decide⟩,F2.1,F2.2⟩
   ·obtain rfl:K=2:=by simpa using h2
    have hb:b.toNat=2:=by omega
    have hb1:¬b.toNat=1:=by omega
    clear hK h2 h1
    by_cases h4:4<=r.length
    ·have R:=zh (show cR (b::r)=some (⟨2,ByteArray.empty,(r.take 4).map eo⟩,r.drop 4)from by simp only[cR];rw[if_neg hb1,if_pos hb,if_pos h4])
     have KL':=KL.o
     rw[show jq 4 r=some ((r.take 4).map eo,r.drop 4)from if_pos h4]at KL'
     have KU:=zh KL'
     clear KT KL KL' h4 hb1
     go_wp2_with fail
     generalize (w2.alloc (.cells #[.int .i64 2,.string {data:=#[]},.slice none 0 0] 108))=w3 at*
     generalize (r.take 4).map eo=x at*
     refine KU.o.mono ?_
     rintro e w4 ⟨⟨v,rfl,A,c,rfl,ho,hc1,hc2⟩,hG,hg⟩
     have s4:=hg.size
     have X4:=(hg.block w2.heap.size (by omega) (λe=>by injection e;omega)).trans X3
     have Z4:=(hg.block w.heap.size (by omega) (λe=>by injection e;omega)).trans Z3
     have y0:=cell_of_row _ _ 0 _ _ _ X4
     have y1:=cell_of_row _ _ 1 _ _ _ X4
     have y2:=cell_of_row _ _ 2 _ _ _ X4
     have f1:=frozen_of_row _ _ 2 _ _ X4
     have z0:=cell_of_row _ _ 0 _ _ _ Z4
     have z1:=cell_of_row _ _ 1 _ _ _ Z4
     have z2:=cell_of_row _ _ 2 _ _ _ Z4
     have k0:=frozen_of_row _ _ 0 _ _ Z4
     have k1:=frozen_of_row _ _ 1 _ _ Z4
     have k2:=frozen_of_row _ _ 2 _ _ Z4
     have g4:=g3.trans hg
     clear X3 Z3 x0 KU
     have hne:w.heap.size≠w2.heap.size:=by omega
     simp only[List.getElem?_toArray,List.getElem?_cons_zero,List.getElem?_cons_succ]at y0 y1 y2 z0 z1 z2
     go_wp2_with fail
     have TX:TypeB w4 w2.heap.size 108:=⟨_,_,X4⟩
     have gx:=ai w4 w2.heap.size 2 (.slice A x.length c)
     have F1:=hG.kept gx (λe=>by injection e;omega)
     have F2:=Dl (cD g4 (by omega) 2 (.slice A x.length c)) F1 (Nat.le_refl _) hgl (.int .i64 2) (.string {data:=#[]}) (.slice A x.length c)
     have Z5:=(gx.block w.heap.size (by omega) (λe=>by injection e;omega)).trans Z4
     have F3:=vl Z5 (.int .i64 2) (.string {data:=#[]}) (.slice A x.length c)
     have T5:TypeB (w4.setCell ⟨w2.heap.size,2,none⟩ (.slice A x.length c)) w.heap.size 108:=⟨_,_,Z5⟩
     have o5:=jY ho gx TX (by decide)
     have o6:=jY o5 (ai _ w.heap.size 0 (.int .i64 2)) T5 (by decide)
     have T6:TypeB ((w4.setCell ⟨w2.heap.size,2,none⟩ (.slice A x.length c)).setCell ⟨w.heap.size,0,none⟩ (.int .i64 2)) w.heap.size 108:=⟨_,_,heap_setCell_same _ _ 0 _ _ _ Z5⟩
     have o7:=jY o6 (ai _ w.heap.size 1 (.string {data:=#[]})) T6 (by decide)
     have T7:TypeB (((w4.setCell ⟨w2.heap.size,2,none⟩ (.slice A x.length c)).setCell ⟨w.heap.size,0,none⟩ (.int .i64 2)).setCell ⟨w.heap.size,1,none⟩ (.string {data:=#[]})) w.heap.size 108:=⟨_,_,heap_setCell_same _ _ 1 _ _ _ (heap_setCell_same _ _ 0 _ _ _ Z5)⟩
     have o8:=bL (jY o7 (ai _ w.heap.size 2 (.slice A x.length c)) T7 (by decide)) (show w.heap.size<=w3.heap.size by omega)
     generalize ((((w4.setCell ⟨w2.heap.size,2,none⟩ (.slice A x.length c)).setCell ⟨w.heap.size,0,none⟩ (.int .i64 2)).setCell ⟨w.heap.size,1,none⟩ (.string {data:=#[]})).setCell ⟨w.heap.size,2,none⟩ (.slice A x.length c))=W at*
     obtain⟨c0,c1,c2⟩:=F3
     refine bodyPost_ret (v:=.agg #[.int .i64 2,.string {data:=#[]},.slice A x.length c]) ?_ rfl ?_
     ·simp[results,results111,go_sem,c0,c1,c2]
     ·rw[R.o]
      exact⟨⟨_,rfl,A,c,rfl,o8,hc1,hc2⟩,F2.1,F2.2⟩
    ·have R:=zh (show cR (b::r)=none from by simp only[cR];rw[if_neg hb1,if_pos hb,if_neg h4])
     have KL':=KL.o
     rw[show jq 4 r=none from if_neg h4]at KL'
     have KU:=zh KL'
     clear KT KL KL' h4 hb1
     go_wp2_with fail
     generalize (w2.alloc (.cells #[.int .i64 2,.string {data:=#[]},.slice none 0 0] 108))=w3 at*
     refine KU.o.mono ?_
     rintro e w4 ⟨rfl,hg⟩
     exact⟨rfl,by rw[R.o];exact⟨rfl,g3.trans hg⟩⟩
  ·obtain rfl:K=1:=by simpa using h1
   have hb:b.toNat=1:=by omega
   clear hK h1
   by_cases h4:4<=r.length
   ·have R:=zh (show cR (b::r)=some (⟨1,ofL (r.take 4),[]⟩,r.drop 4)from by simp only[cR];rw[if_pos hb,if_pos h4])
    have KT':=KT.o
    rw[show lB 4 r=some (r.take 4,r.drop 4)from if_pos h4]at KT'
    have KU:=zh KT'
    clear KT KL KT' h4
    go_wp2_with fail
    generalize (w2.alloc (.cells #[.int .i64 1,.string {data:=#[]},.slice none 0 0] 108))=w3 at*
    refine KU.o.mono ?_
    rintro e w4 ⟨⟨v,rfl,rfl⟩,hG,hg⟩
    have s4:=hg.size
    have X4:=(hg.block w2.heap.size (by omega) (λe=>by injection e;omega)).trans X3
    have Z4:=(hg.block w.heap.size (by omega) (λe=>by injection e;omega)).trans Z3
    have y0:=cell_of_row _ _ 0 _ _ _ X4
    have y1:=cell_of_row _ _ 1 _ _ _ X4
    have y2:=cell_of_row _ _ 2 _ _ _ X4
    have f1:=frozen_of_row _ _ 1 _ _ X4
    have z0:=cell_of_row _ _ 0 _ _ _ Z4
    have z1:=cell_of_row _ _ 1 _ _ _ Z4
    have z2:=cell_of_row _ _ 2 _ _ _ Z4
    have k0:=frozen_of_row _ _ 0 _ _ Z4
    have k1:=frozen_of_row _ _ 1 _ _ Z4
    have k2:=frozen_of_row _ _ 2 _ _ Z4
    have g4:=g3.trans hg
    clear X3 Z3 x0 KU
    have hne:w.heap.size≠w2.heap.size:=by omega
    generalize ofL (r.take 4)=d at*
    simp only[List.getElem?_toArray,List.getElem?_cons_zero,List.getElem?_cons_succ]at y0 y1 y2 z0 z1 z2
    go_wp2_with fail
    have F1:=hG.kept (ai w4 w2.heap.size 1 (.string d)) (λe=>by injection e;omega)
    have F2:=Dl (cD g4 (by omega) 1 (.string d)) F1 (Nat.le_refl _) hgl (.int .i64 1) (.string d) (.slice none 0 0)
    have F3:=vl (((ai w4 w2.heap.size 1 (.string d)).block w.heap.size (by omega) (λe=>by injection e;omega)).trans Z4) (.int .i64 1) (.string d) (.slice none 0 0)
    generalize ((((w4.setCell ⟨w2.heap.size,1,none⟩ (.string d)).setCell ⟨w.heap.size,0,none⟩ (.int .i64 1)).setCell ⟨w.heap.size,1,none⟩ (.string d)).setCell ⟨w.heap.size,2,none⟩ (.slice none 0 0))=W at*
    obtain⟨c0,c1,c2⟩:=F3
    refine bodyPost_ret (v:=.agg #[.int .i64 1,.string d,.slice none 0 0]) ?_ rfl ?_
    ·simp[results,results111,go_sem,c0,c1,c2]
    ·rw[R.o]
     exact⟨⟨_,rfl,none,0,rfl,World.ownsRow_nil _ _ _ _,Nat.le_refl _,by decide⟩,F2.1,F2.2⟩
   ·have R:=zh (show cR (b::r)=none from by simp only[cR];rw[if_pos hb,if_neg h4])
    have KT':=KT.o
    rw[show lB 4 r=none from if_neg h4]at KT'
    have KU:=zh KT'
    clear KT KL KT' h4
    go_wp2_with fail
    generalize (w2.alloc (.cells #[.int .i64 1,.string {data:=#[]},.slice none 0 0] 108))=w3 at*
    refine KU.o.mono ?_
    rintro e w4 ⟨rfl,hg⟩
    exact⟨rfl,by rw[R.o];exact⟨rfl,g3.trans hg⟩⟩
theorem pK (gb:Nat) (l:List UInt8) (g:Nat) (w:World) (h:Gl w gb 129 l) (hg:g<=1000):
  Calls prog 113 #[.pointer (some ⟨gb,0,none⟩),.int .i64 g] w (AJ (Dc w.heap.size) (jq (bm g) l) gb w):=by
 have hw:a6 (g:Int)=(bm g:Nat):=by unfold a6 bm;omega
 have K:=zh (pJ gb l (bm g) w h (by unfold bm;omega))
 have KW:=zh (λW=>ik (g:Int) W (by omega) (by omega))
 rw[hw]at KW
 generalize bm g=n at*
 generalize jq n l=o at*
 clear h hw
 go_enter func113,ntmps113
 go_wp2_with (go_at_call 21;refine(KW.o _).mono ?_;rintro e w' ⟨rfl,rfl⟩)
 cases o with
 |none=>
  refine K.o.mono ?_
  rintro e w2 ⟨rfl,hg⟩
  exact⟨rfl,rfl,hg⟩
 |some y=>
  obtain⟨x,r⟩:=y
  refine K.o.mono ?_
  rintro e w2 ⟨⟨v,rfl,hv⟩,hG,hg⟩
  go_wp2_with fail
  go_ret
  exact⟨⟨_,rfl,hv⟩,hG,hg⟩
end
end Go.Proofs.YtdbneghfbkjinaaGreatDoor
