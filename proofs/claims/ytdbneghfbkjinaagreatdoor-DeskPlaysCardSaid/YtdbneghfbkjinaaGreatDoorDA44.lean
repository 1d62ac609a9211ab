/- Texts of the proof of deskPlays_holds: DPlay, DBeg. Conditions: as each text says. -/
import Derived.Test.YtdbneghfbkjinaaGreatDoorDA1
import Derived.Test.YtdbneghfbkjinaaGreatDoorDA41
import Derived.Test.YtdbneghfbkjinaaGreatDoorDA42
import Derived.Test.YtdbneghfbkjinaaGreatDoorDA43
set_option maxRecDepth 100000
set_option maxHeartbeats 1000000
namespace Go.Proofs.YtdbneghfbkjinaaGreatDoor
section
open Go.Proofs.Tryz
open Go.RowKit Go.Shelf Sl
attribute [local go_sem] Oper.semAt_some
def dO:List UInt8->Img->List UInt8->List UInt8
 |[],_,_=>[]
 |b::r,m,cur=>if b=10 then(eY m cur).2++10::dO r (eY m cur).1 []else dO r m (cur++[b])
theorem BQ {k:Nat}:∀{r:List UInt8} {m:Img} {cur:List UInt8},r[k]? =some 10->(∀j,j<k->r[j]? ≠some 10)->
  dO r m cur=(eY m (cur++r.take k)).2++10::dO (r.drop (k+1)) (eY m (cur++r.take k)).1 []:=by
 induction k with
 |zero=>
  intro r m cur h _
  cases r with
  |nil=>cases h
  |cons b r=>
   obtain rfl:b=10:=by simpa using h
   simp[dO]
 |succ k ih=>
  intro r m cur h hno
  cases r with
  |nil=>cases h
  |cons b r=>
   have hb:b≠10:= λe=>hno 0 (by omega) (by simp[e])
   have:=ih (r:=r) (m:=m) (cur:=cur++[b]) (by simpa using h) (λj hj=>by simpa using hno (j+1) (by omega))
   simp only[dO,if_neg hb,List.take_succ_cons,List.drop_succ_cons]
   rw[this]
   simp
def dU (l:List UInt8):Int:=if 4096<l.length\/60<l.count 10 then 2 else if l=[]\/l.getLast? =some 10 then 0 else 1
def i7 (l:List UInt8):List UInt8:=if dU l=0 then dO l (aG 0) []else[]
theorem zw {l:List UInt8} (h:l=[]\/l.getLast? =some 10):Ends l:=by
 rcases h with h|h
 ·exact .inl h
 ·obtain⟨q,hq⟩:=List.getLast?_eq_some_iff.1 h
  exact .inr ⟨q,hq⟩
theorem jJ (l:List UInt8):Lib.hasSuffix l [10]=decide (l.getLast? =some 10):=by
 unfold Lib.hasSuffix
 rw[Bool.eq_iff_iff,List.isSuffixOf_iff_suffix,decide_eq_true_eq,List.getLast?_eq_some_iff]
 constructor
 ·rintro ⟨q,hq⟩;exact⟨q,hq.symm⟩
 ·rintro ⟨q,hq⟩;exact⟨q,hq.symm⟩
theorem zx {r:List UInt8} {k:Nat} (hk:r[k]? =some 10):Lib.trimSuffix (r.take (k+1)) [10]=r.take k:=by
 have hl:=(zl hk)
 have e:r.take (k+1)=r.take k++[10]:=by rw[List.take_add_one,hk];rfl
 unfold Lib.trimSuffix
 rw[jJ,e,if_pos (by simp)]
 rw[List.length_append,show([10]:List UInt8).length=1 from rfl,Nat.add_sub_cancel,List.take_left]
theorem zy (s:ByteArray) (w:World):Calls prog 10 #[.string s] w λe w'=>e=.returned (.func (.func 22) #[] #[.pointer (some ⟨w.heap.size,0,none⟩)])/\w'=w.alloc (.cells #[.string s] 9):=by
 have hmf:∀(fn:Fn) (first cap:Array Value) (w:World),(Instr.makeFunc fn first cap).run prog w=.ok (.func fn first cap) w:= λ_ _ _ _=>rfl
 go_enter func10,ntmps10
 go_wp2_with fail
 go_ret
 exact⟨rfl,rfl⟩
section
variable (s:ByteArray) (w:World)
theorem zz (h:4096<s.size):Calls prog 4 #[.string s] w λe w'=>e=.returned (.tuple #[.string {data:=#[]},.int .i64 2])/\Below w.heap.size w w':=by
 have e0:(4096:Int)<(s.size:Int):=by omega
 refine(callsIn_wide (n:=8)).1 ?_
 refine callsIn_of_wp_marks func4 rfl trivial ?_ rfl
 simp only[ntmps4,List.size_toArray,List.length_cons,List.length_nil,Nat.reduceAdd,Nat.reduceSub,Array.replicate_succ,Array.replicate_zero,List.push_toArray,List.append_toArray,List.nil_append,List.cons_append]
 refine wpIn_wide.2 ?_
 go_wp2_with fail
 exact⟨_,by simp[results,results4,go_sem],rfl,Below.refl _ _⟩
theorem zA (h:s.size<=4096) (hc:60<(toL s).count 10):Calls prog 4 #[.string s] w λe w'=>e=.returned (.tuple #[.string {data:=#[]},.int .i64 2])/\Below w.heap.size w w':=by
 have e0:(s.size:Int)<=4096:=by omega
 have KC:=zh (λW=>strings_Count_one s 10 W)
 rw[show Lib.countByte s.data.toList 10=(toL s).count 10 from rfl]at KC
 have e1:(60:Int)<((toL s).count 10:Nat):=by omega
 generalize ((toL s).count 10:Nat)=c at*
 refine(callsIn_wide (n:=8)).1 ?_
 refine callsIn_of_wp_marks func4 rfl trivial ?_ rfl
 simp only[ntmps4,List.size_toArray,List.length_cons,List.length_nil,Nat.reduceAdd,Nat.reduceSub,Array.replicate_succ,Array.replicate_zero,List.push_toArray,List.append_toArray,List.nil_append,List.cons_append]
 refine wpIn_wide.2 ?_
 go_wp2_with fail
 refine(KC.o _).mono ?_
 rintro e w' ⟨rfl,rfl⟩
 go_wp2_with fail
 exact⟨_,by simp[results,results4,go_sem],rfl,Below.refl _ _⟩
theorem zB (h:s.size<=4096) (hc:¬60<(toL s).count 10) (h0:toL s≠[]) (hl:¬(toL s).getLast? =some 10):Calls prog 4 #[.string s] w λe w'=>e=.returned (.tuple #[.string {data:=#[]},.int .i64 1])/\Below w.heap.size w w':=by
 have e0:(s.size:Int)<=4096:=by omega
 have KC:=zh (λW=>strings_Count_one s 10 W)
 rw[show Lib.countByte s.data.toList 10=(toL s).count 10 from rfl]at KC
 have e1:((toL s).count 10:Nat)<=(60:Int):=by omega
 generalize ((toL s).count 10:Nat)=c at*
 have KS:=zh (λW=>strings_HasSuffix s {data:=#[10]} W (by omega))
 rw[show Lib.hasSuffix s.data.toList (({data:=#[10]}:ByteArray).data.toList)=false from(jJ (toL s)).trans (decide_eq_false hl)]at KS
 have q0:=bM h0
 refine(callsIn_wide (n:=8)).1 ?_
 refine callsIn_of_wp_marks func4 rfl trivial ?_ rfl
 simp only[ntmps4,List.size_toArray,List.length_cons,List.length_nil,Nat.reduceAdd,Nat.reduceSub,Array.replicate_succ,Array.replicate_zero,List.push_toArray,List.append_toArray,List.nil_append,List.cons_append]
 refine wpIn_wide.2 ?_
 go_wp2_with fail
 refine(KC.o _).mono ?_
 rintro e w' ⟨rfl,rfl⟩
 go_wp2_with fail
 refine(KS.o _).mono ?_
 rintro e w' ⟨rfl,rfl⟩
 go_wp2_with fail
 exact⟨_,by simp[results,results4,go_sem],rfl,Below.refl _ _⟩
structure PlS (tb bb pb bx:Nat) (w:World) (total:List UInt8) (r:List UInt8) (W:World):Prop where
 tab:∃m out,ab m=0/\Tb W tb m/\Lib.IsBuilder 41 5 w.heap.size bb (Lib.byteCells out) W/\out++dO r m []=total/\out.length+201*r.length<=201*4096
 ptr:W.heap[pb]? =some (.cells #[.pointer (some ⟨tb,0,none⟩)] 29 (0,0))
 box:TypeB W bx 9
 below:Below w.heap.size w W
theorem PlS.kt {N:TypeId->Prop} {tb bb pb bx:Nat} {w W W':World} {total r:List UInt8} (h:PlS tb bb pb bx w total r W) (hk:KT N W W') (h1:¬N 3) (h2:¬N 108) (h3:¬N 102) (h4:¬N 37) (h5:¬N 5) (h6:¬N 41) (h7:¬N 29) (hx:TypeB W' bx 9) (hb:Below w.heap.size w W'):PlS tb bb pb bx w total r W':=by
 obtain⟨m,out,hm,hT,hB,ht,hl⟩:=h.tab
 exact⟨⟨m,out,hm,hk.tbl h1 h2 h3 h4 hT,hk.bld h5 h6 hB,ht,hl⟩,(hk.same _ _ _ _ h.ptr h7).trans h.ptr,hx,hb⟩
theorem KT.type {N:TypeId->Prop} {W W':World} {b:Nat} {T:TypeId} (h:KT N W W') (hT:TypeB W b T) (hN:¬N T):TypeB W' b T:=by
 obtain⟨c,fr,hb⟩:=hT
 exact⟨c,fr,(h.same _ _ _ _ hb hN).trans hb⟩
theorem BR {W:World} {b:Nat} {T:TypeId} {v:Value} (h:TypeB W b T):TypeB (W.setCell ⟨b,0,none⟩ v) b T:=by
 obtain⟨c,fr,hb⟩:=h
 exact⟨c.setIfInBounds 0 v,fr,by simp[World.setCell,Array.getElem?_modify,hb]⟩
theorem wv (out t:List UInt8):Lib.byteCells out++Lib.strCells (ofL t++{data:=#[10]})=Lib.byteCells (out++t++[10]):=by
 rw[show({data:=#[10]}:ByteArray)=ofL [10]from rfl,ee,Lib.strCells_eq,show(ofL (t++[10])).data.toList=t++[10]from aZ _,List.append_assoc,Lib.byteCells_append out]
theorem qq {W:World} {B b size n:Nat} {e:TypeId} {v:Value} {xs:List Value} (h:W.ownsRow B e size v n xs) (hb:b<=B):W.ownsRow b e size v n xs:=
 ⟨h.1,h.2.imp id λ⟨g,cap,cur,hv,hB,r⟩=>⟨g,cap,cur,hv,Nat.le_trans hb hB,r⟩⟩
theorem zC {tb bx k L:Nat} {w W W2 W3:World} {V r out:List UInt8} {m:Img} {a:Act} {st:Img×List UInt8} (hS:PlS tb (tb+1+1) (tb+1) bx w V r W) (hk:r[k]? =some 10) (hno:∀j,j<k->r[j]? ≠some 10) (hst:eY m (r.take k)=st) (hgd:ab st.1=0/\st.2.length<=200)
  (htot:out++dO r m []=V) (hlen:out.length+201*r.length<=201*4096) (hw:w.heap.size<=tb) (hL:tb<L) (hTW:TypeB W tb 37) (hT2:Tb W2 tb st.1) (hg2:W.grownBy W2 (some tb))
  (h3:Lib.BuilderAt 41 5 w.heap.size (tb+1+1) (.pointer (some ⟨tb+1+1,0,none⟩)) (Lib.byteCells out++Lib.strCells (ofL st.2++{data:=#[10]})) W3) (hb3:Below w.heap.size W2 W3) (hk3:KT wsN W2 W3) (ho3:KeepsOthers W2 W3):
  tW L bx (PlS tb (tb+1+1) (tb+1) bx w V) (r.drop (k+1)) W .normal a W3:=by
 have hkl:=(zl hk)
 have K2:KT (λT=>T=37) W W2:=KT.grown hg2 hTW rfl
 obtain⟨c,fr,hX⟩:=hS.box
 have X2:=(K2.same _ _ _ _ hX (by decide)).trans hX
 have X3:=(hk3.same _ _ _ _ X2 (by unfold wsN;decide)).trans X2
 have P2:=(K2.same _ _ _ _ hS.ptr (by decide)).trans hS.ptr
 rw[wv]at h3
 rw[BQ hk hno,List.nil_append,hst]at htot
 refine⟨⟨Nat.le_trans hg2.size ho3.size,λj o hj ho hc=>ho3.same j o ((hg2.block j (za ho) (λe=>by injection e;omega)).trans ho) hc⟩,X3.trans hX.symm,⟨st.1,out++st.2++[10],hgd.1,hk3.tbl (by unfold wsN;decide) (by unfold wsN;decide) (by unfold wsN;decide) (by unfold wsN;decide) hT2,.inr h3,by rw[<-htot];simp,?_⟩,(hk3.same _ _ _ _ P2 (by unfold wsN;decide)).trans P2,⟨c,fr,X3⟩,?_⟩
 ·have:=hgd.2
  simp only[List.length_append,List.length_cons,List.length_nil,List.length_drop]
  omega
 ·exact(hS.below.grown hg2 hS.below.size (λj e=>by injection e;omega)).trans hb3
theorem ww {s:ByteArray} {w w2:World} {v:IV} {base:Nat} {tg:Nat->Nat} {q:List SV} {p:List PV} {V:List UInt8} (hb2:Below w.heap.size w w2) (ho:OwnI w2 base tg v q p (aG 0)) (hV:V=dO (toL s) (aG 0) []) (hs:s.size<=4096):
  PlS w2.heap.size (w2.heap.size+1+1) (w2.heap.size+1) (((w2.alloc (.cells #[.int .i64 (aG 0).guest,.slice v.rA v.rn v.rc,.slice v.sA v.sn v.sc,.slice v.fA v.fn v.fc,.slice v.pA v.pn v.pc] 37)).alloc (.cells #[.pointer (some ⟨w2.heap.size,0,none⟩)] 29)).alloc (.cells #[.pointer none,.slice none 0 0] 41)).heap.size w V (toL s)
   ((((w2.alloc (.cells #[.int .i64 (aG 0).guest,.slice v.rA v.rn v.rc,.slice v.sA v.sn v.sc,.slice v.fA v.fn v.fc,.slice v.pA v.pn v.pc] 37)).alloc (.cells #[.pointer (some ⟨w2.heap.size,0,none⟩)] 29)).alloc (.cells #[.pointer none,.slice none 0 0] 41)).alloc (.cells #[.string s] 9))/\
  ((((w2.alloc (.cells #[.int .i64 (aG 0).guest,.slice v.rA v.rn v.rc,.slice v.sA v.sn v.sc,.slice v.fA v.fn v.fc,.slice v.pA v.pn v.pc] 37)).alloc (.cells #[.pointer (some ⟨w2.heap.size,0,none⟩)] 29)).alloc (.cells #[.pointer none,.slice none 0 0] 41)).alloc (.cells #[.string s] 9)).heap[(((w2.alloc (.cells #[.int .i64 (aG 0).guest,.slice v.rA v.rn v.rc,.slice v.sA v.sn v.sc,.slice v.fA v.fn v.fc,.slice v.pA v.pn v.pc] 37)).alloc (.cells #[.pointer (some ⟨w2.heap.size,0,none⟩)] 29)).alloc (.cells #[.pointer none,.slice none 0 0] 41)).heap.size]? =some (.cells #[.string s] 9 (0,0))/\
  (((w2.alloc (.cells #[.int .i64 (aG 0).guest,.slice v.rA v.rn v.rc,.slice v.sA v.sn v.sc,.slice v.fA v.fn v.fc,.slice v.pA v.pn v.pc] 37)).alloc (.cells #[.pointer (some ⟨w2.heap.size,0,none⟩)] 29)).alloc (.cells #[.pointer none,.slice none 0 0] 41)).heap.size=w2.heap.size+1+1+1:=by
 have B3:=ac w2 (.cells #[.int .i64 (aG 0).guest,.slice v.rA v.rn v.rc,.slice v.sA v.sn v.sc,.slice v.fA v.fn v.fc,.slice v.pA v.pn v.pc] 37)
 have s3:(w2.alloc (.cells #[.int .i64 (aG 0).guest,.slice v.rA v.rn v.rc,.slice v.sA v.sn v.sc,.slice v.fA v.fn v.fc,.slice v.pA v.pn v.pc] 37)).heap.size=w2.heap.size+1:=World.size_alloc _ _
 have T3:Tb (w2.alloc (.cells #[.int .i64 (aG 0).guest,.slice v.rA v.rn v.rc,.slice v.sA v.sn v.sc,.slice v.fA v.fn v.fc,.slice v.pA v.pn v.pc] 37)) w2.heap.size (aG 0):=⟨BoxG.new _ _ _,base,tg,v,q,p,ho.next B3,Box.new w2 _ v _⟩
 generalize w2.alloc (.cells #[.int .i64 (aG 0).guest,.slice v.rA v.rn v.rc,.slice v.sA v.sn v.sc,.slice v.fA v.fn v.fc,.slice v.pA v.pn v.pc] 37)=W3 at*
 have B4:=ac W3 (.cells #[.pointer (some ⟨w2.heap.size,0,none⟩)] 29)
 have P4:=heap_alloc_new W3 (.cells #[.pointer (some ⟨w2.heap.size,0,none⟩)] 29)
 have s4:(W3.alloc (.cells #[.pointer (some ⟨w2.heap.size,0,none⟩)] 29)).heap.size=W3.heap.size+1:=World.size_alloc _ _
 have T4:=T3.next B4
 have BB4:=aa B3 B4
 rw[s3]at P4 s4
 generalize W3.alloc (.cells #[.pointer (some ⟨w2.heap.size,0,none⟩)] 29)=W4 at*
 have B5:=ac W4 (.cells #[.pointer none,.slice none 0 0] 41)
 have S5:=Lib.fresh_isBuilder 41 5 W4
 have s5:(W4.alloc (.cells #[.pointer none,.slice none 0 0] 41)).heap.size=W4.heap.size+1:=World.size_alloc _ _
 have T5:=T4.next B5
 have P5:=(B5.block (w2.heap.size+1) (by omega)).trans P4
 have BB5:=aa BB4 B5
 rw[s4]at S5 s5
 generalize W4.alloc (.cells #[.pointer none,.slice none 0 0] 41)=W5 at*
 have B6:=ac W5 (.cells #[.string s] 9)
 have X6:=heap_alloc_new W5 (.cells #[.string s] 9)
 have S6:=(KT.below (N:= λ_=>False) B6).bld id id S5
 have hls:=bv s
 have:=hb2.size
 exact⟨⟨⟨aG 0,[],iQ,T5.next B6,S6.imp (λ⟨_,v,k1,k2,k3⟩=>⟨by omega,v,k1,qq k2 (by omega),k3⟩) (λ⟨_,v,k1,k2,k3⟩=>⟨by omega,v,k1,qq k2 (by omega),k3⟩),hV.symm,by simp only[List.length_nil];omega⟩,(B6.block (w2.heap.size+1) (by omega)).trans P5,⟨_,_,X6⟩,aa hb2 (aa BB5 B6)⟩,X6,s5⟩
theorem CT (B:Nat) (hG:Glob B w) (hB:B<=w.heap.size) (h:s.size<=4096) (hc:¬60<(toL s).count 10) (hl:toL s=[]\/(toL s).getLast? =some 10):Calls prog 4 #[.string s] w λe w'=>e=.returned (.tuple #[.string (ofL (dO (toL s) (aG 0) [])),.int .i64 0])/\Below w.heap.size w w':=by
 have hend:=zw hl
 have hls:=bv s
 have e0:(s.size:Int)<=4096:=by omega
 have KC:=zh (λW=>strings_Count_one s 10 W)
 rw[show Lib.countByte s.data.toList 10=(toL s).count 10 from rfl]at KC
 have e1:((toL s).count 10:Nat)<=(60:Int):=by omega
 generalize ((toL s).count 10:Nat)=c at*
 have KF:=zh (λW=>zv 0 W (by decide) (by decide))
 have KL:=zh (λW=>zy s W)
 have KS:=zh (λW=>strings_HasSuffix s {data:=#[10]} W (by omega))
 rw[show Lib.hasSuffix s.data.toList (({data:=#[10]}:ByteArray).data.toList)=_ from jJ (toL s)]at KS
 obtain⟨V,hV⟩:∃V,V=dO (toL s) (aG 0) []:=⟨_,rfl⟩
 rw[<-hV]
 have hcase:((s.toList==[])=true/\s.toList.isEmpty=true)\/((s.toList==[])=false/\s.toList.isEmpty=false/\decide ((toL s).getLast? =some 10)=true):=by
  by_cases h0:toL s=[]
  ·obtain rfl:s=ofL []:=iS h0
   exact .inl ⟨beq_iff_eq.2 (List.isEmpty_iff.1 jT),jT⟩
  ·refine .inr ⟨bM h0,?_,decide_eq_true (hl.resolve_left h0)⟩
   have:=bM h0
   cases hh:s.toList with
   |nil=>rw[hh]at this;cases this
   |cons _ _=>rfl
 have HE:=zh (And.intro hend (And.intro hls hV))
 have HG:=zh (λW (hb:Below w.heap.size w W)=>(hG.below hb hB))
 have HBw:=zh hB
 clear hl hend hls hV hG hB h hc
 generalize decide ((toL s).getLast? =some 10)=bl at*
 refine(callsIn_wide (n:=8)).1 ?_
 refine callsIn_of_wp_marks func4 rfl trivial ?_ rfl
 simp only[ntmps4,List.size_toArray,List.length_cons,List.length_nil,Nat.reduceAdd,Nat.reduceSub,Array.replicate_succ,Array.replicate_zero,List.push_toArray,List.append_toArray,List.nil_append,List.cons_append]
 refine wpIn_wide.2 ?_
 go_wp2_with fail
 refine(KC.o _).mono ?_
 rintro e w' ⟨rfl,hw'⟩
 obtain rfl:w=w':=hw'.symm
 clear hw' KC
 rcases hcase with⟨q0,q1⟩|⟨q0,q1,rfl⟩
 case' inl=>go_wp2_with fail
 case' inr=>
  go_wp2_with fail
  refine(KS.o _).mono ?_
  rintro e w' ⟨rfl,hw'⟩
  obtain rfl:w=w':=hw'.symm
  clear hw'
  go_wp2_with fail
 all_goals
  clear KS
  refine(KF.o _).mono ?_
  rintro e w2 ⟨v,rfl,hf,hb2⟩
  obtain⟨base,tg,q,p,ho⟩:=hf.own iQ
  dsimp only[ae]
  go_wp2_with fail
  refine(KL.o _).mono ?_
  rintro e w3 ⟨rfl,rfl⟩
  obtain⟨hP,hX,hS⟩:=ww hb2 ho HE.o.2.2 (by omega)
  generalize ((w2.alloc (.cells #[.int .i64 (aG 0).guest,.slice v.rA v.rn v.rc,.slice v.sA v.sn v.sc,.slice v.fA v.fn v.fc,.slice v.pA v.pn v.pc] 37)).alloc (.cells #[.pointer (some ⟨w2.heap.size,0,none⟩)] 29)).alloc (.cells #[.pointer none,.slice none 0 0] 41)=W5 at*
  generalize W5.alloc (.cells #[.string s] 9)=W6 at*
  have hl6:=(za hX)
  rw[<-cW s]at hX
  have HX:=zh hX
  have HP:=zh hP
  have hb2:=hb2.size
  clear hf ho KF KL hX hP
  generalize W5.heap.size=bx at*
  generalize w2.heap.size=tb at*
  subst hS
  go_wp2_with fail
  refine wpIn_wide.1 (ua (n:=8) (bx:=tb+1+1+1) (r0:=toL s) (by decide) rfl rfl hl6 HX.o HE.o.1 (by have:=HE.o.2.1;omega) (PlS tb (tb+1+1) (tb+1) (tb+1+1+1) w V) ?i1 ?i2 ?i3 HP.o 27 6 ?assign ?body ?done)
  case assign=>
   intro l x W K hK
   gi_wp2
   exact hK
  case i1=>exactλr W u h=>h.kt ((KT.grown (N:= λT=>T=9) (ai W (tb+1+1+1) 0 u) h.box rfl).drew) (by decide) (by decide) (by decide) (by decide) (by decide) (by decide) (by decide) (BR h.box) ((h.below.setCell (p:=⟨tb+1+1+1,0,none⟩) (show w.heap.size<=tb+1+1+1 by omega) u).drew)
  case i2=>exactλr W l o o' h hl ho hc=>h.kt (KT.put (N:= λ_=>False) l o o' ho hc) id id id id id id id ((KT.put (N:= λ_=>False) l o o' ho hc).type h.box id) (h.below.grown (grownBy_putObj' W l o') h.below.size (λk e=>by injection e;omega))
  case i3=>exactλr W o h=>h.kt (KT.below (N:= λ_=>False) (ac W o)) id id id id id id id ((KT.below (N:= λ_=>False) (ac W o)).type h.box id) (h.below.alloc h.below.size o)
  case body=>
   intro l r k W hPl hk hno
   obtain⟨m,out,hm,hT,hB,htot,hlen⟩:=hPl.tab
   have hkl:=(zl hk)
   have c4:W.cell? ⟨tb+1,0,none⟩=some (.pointer (some ⟨tb,0,none⟩)):=by rw[Lib.cell_of_heap hPl.ptr];rfl
   have KTr:= λW=>strings_TrimSuffix (ofL (r.take (k+1))) {data:=#[10]} W (by rw[aT,List.length_take];omega)
   rw[show Lib.trimSuffix (ofL (r.take (k+1))).data.toList (({data:=#[10]}:ByteArray).data.toList)=r.take k from by rw[show(ofL (r.take (k+1))).data.toList=r.take (k+1)from aZ _];exact zx hk]at KTr
   have KLn:=BN (w:=W.drew) (hT.next (Below.refl _ _).drew) hm (HG.o _ hPl.below.drew) (by have:=HBw.o;omega) (ofL (r.take k)) (by rw[aT,List.length_take];omega)
   rw[aZ]at KLn
   have hgd:=qa hm (r.take k)
   generalize hst:eY m (r.take k)=st at*
   have HTr:=zh KTr
   have HLn:=zh KLn
   have n1:¬9223372036854775807<(ofL st.2).size+1:=by rw[aT];omega
   have HWs:=zh (λW2 (hg2:W.drew.grownBy W2 (some tb))=>BP w.heap.size (tb+1+1) (Lib.byteCells out) (ofL st.2++{data:=#[10]}) W2 ((KT.grown (N:= λT=>T=37) hg2 (show TypeB W.drew tb _ from hT.ty.ty) rfl).bld (by decide) (by decide) hB) (by rw[Lib.byteCells_length,ByteArray.size_append,aT];have:({data:=#[10]}:ByteArray).size=1:=rfl;omega) (Nat.le_trans hPl.below.size hg2.size))
   have HEnd:=zh (λ(a:Act) W2 W3 hT2 (hg2:W.drew.grownBy W2 (some tb)) h3 hb3 hk3 ho3=>zC (a:=a) (L:=W6.heap.size) (W2:=W2) (W3:=W3) hPl hk hno hst hgd htot hlen hb2 (by omega) hT.ty.ty hT2 ⟨hg2.os,hg2.tape,hg2.output,hg2.size,hg2.block⟩ h3 hb3 hk3 ho3)
   clear KTr KLn hT hB htot hlen hPl hno hm HG hgd hst HE
   have hmx:prog.follows .mixedOrders=true:=by kernel_rfl
   simp only[List.setIfInBounds_toArray,List.set_cons_zero,List.set_cons_succ]
   rw[show(⟨(r.take k).toArray⟩:ByteArray)=ofL (r.take k)from rfl]at HTr
   generalize ofL (r.take (k+1))=la at*
   generalize ofL (r.take k)=ta at*
   gi_wp2
   gi_region_with_o (first|(refine⟨trivial,?_⟩;gi_at_call 13;refine(CallsIn.inRound l (callsIn_wide.2 (HTr.o _))).mono ?_;rintro e w' ⟨rfl,rfl⟩)|(refine⟨trivial,?_⟩;gi_at_call 12;refine(CallsIn.inRound l (callsIn_wide.2 HLn.o)).mono ?_;rintro e W2 ⟨rfl,hT2,hg2⟩;have HW2:=zh (HWs.o W2 hg2);have HE2:=zh (λa W3=>HEnd.o a W2 W3 hT2 hg2);clear hT2 hg2)|(refine⟨trivial,?_⟩;gi_at_call 11;refine(CallsIn.inRound l (callsIn_wide.2 HW2.o)).mono ?_;rintro e W3 ⟨⟨vv,rfl⟩,h3,hb3,hk3,ho3⟩))
   all_goals exact HE2.o {tmps:=#[],defers:=[]} W3 h3 hb3 hk3 ho3
  case done=>
   intro D W hD hPl hK
   obtain⟨m,out,hm,hT,hB,htot,hlen⟩:=hPl.tab
   have hout:out=V:=by rw[<-htot];simp[dO]
   subst hout
   have KB:=zh (Builder_String_any_k w.heap.size (tb+1+1) out W (Lib.IsBuilderF.of hB) hPl.below.size)
   have HBl:=zh hPl.below
   clear hT hB htot hlen hPl hm HG HE
   go_wp2_with fail
   refine KB.o.mono ?_
   rintro e w5 ⟨rfl,_,hb5,ho5⟩
   have hK5:w5.heap[D]? =some (.deferred (some [])):=ho5 D _ hK (λe=>by injection e;omega) (λ_ _ e=>by cases e)
   have hbe:=HBl.o.trans hb5
   clear ho5 hb5 HBl KB
   go_wp2_with fail
   refine⟨by simp,.inl ⟨_,_,rfl,run_takeDeferred hK5,?_⟩⟩
   exact⟨_,by simp[results,results4,go_sem];rfl,rfl,hbe.grown (grownBy_putObj' w5 D _) hbe.size (λk e=>by injection e;omega)⟩
theorem ug (B:Nat) (hG:Glob B w) (hB:B<=w.heap.size):Calls prog 4 #[.string s] w λe w'=>e=.returned (.tuple #[.string (ofL (i7 (toL s))),.int .i64 (dU (toL s))])/\Below w.heap.size w w':=by
 have hl:=bv s
 unfold i7
 by_cases h1:4096<s.size
 ·rw[show dU (toL s)=2 from by unfold dU;rw[if_pos (.inl (by omega))],if_neg (by decide)]
  exact zz s w h1
 by_cases h2:60<(toL s).count 10
 ·rw[show dU (toL s)=2 from by unfold dU;rw[if_pos (.inr h2)],if_neg (by decide)]
  exact zA s w (by omega) h2
 by_cases h3:toL s=[]\/(toL s).getLast? =some 10
 ·rw[show dU (toL s)=0 from by unfold dU;rw[if_neg (by omega),if_pos h3],if_pos rfl]
  exact CT s w B hG hB (by omega) h2 h3
 ·rw[show dU (toL s)=1 from by unfold dU;rw[if_neg (by omega),if_neg h3],if_neg (by decide)]
  exact zB s w (by omega) h2 (λe=>h3 (.inl e)) (λe=>h3 (.inr e))
end
end
section
open Sl
def CU:List UInt8:=[115,105,122,101,32,54,10,119,114,105,116,101,32,48,32,97,98,99,100,10,115,110,97,112,32,111,110,101,10,119,114,105,116,101,32,48,32,101,102,103,104,10,119,105,112,101,32,53,10,109,97,112,10,117,115,101,100,10,98,97,99,107,32,111,110,101,10,114,101,97,100,32,48,10,114,101,97,100,32,49,10,100,114,111,112,32,111,110,101,10,117,115,101,100,10,112,97,99,107,10,117,115,101,100,10,115,97,118,101,10,119,114,105,116,101,32,48,32,97,98,99,10,120,10]
def CV:List UInt8:=[111,107,10,111,107,10,111,107,10,111,107,10,111,107,10,52,32,46,32,46,32,46,32,46,32,48,10,53,32,54,10,111,107,10,97,98,99,100,10,46,46,46,46,10,111,107,10,50,32,54,10,111,107,10,50,32,51,10,49,54,10,101,114,114,111,114,32,49,10,101,114,114,111,114,32,49,10]
theorem Dg:dU CU=0:=by decide+kernel
theorem DT:dO CU (aG 0) []=CV:=by decide+kernel
end
end Go.Proofs.YtdbneghfbkjinaaGreatDoor
