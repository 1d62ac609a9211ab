/- Texts of the proof of deskPlays_holds: SnAll, DLine. Conditions: as each text says. -/
import Derived.Test.YtdbneghfbkjinaaGreatDoorDA1
import Derived.Test.YtdbneghfbkjinaaGreatDoorDA37
import Derived.Test.YtdbneghfbkjinaaGreatDoorDA40
set_option maxRecDepth 100000
set_option maxHeartbeats 1000000
namespace Go.Proofs.YtdbneghfbkjinaaGreatDoor
section
open Go.Proofs.Tryz
open Go.RowKit Sl
theorem iW (m:Img) (name:ByteArray):ab m≠0/\bJ m name=ab m\/ab m=0/\m.snaps.any (named name)=false/\bJ m name=5\/bJ m name=0:=by
 by_cases he:ab m=0
 ·cases ha:m.snaps.any (named name)
  ·exact .inr (.inl ⟨he,rfl,(ic he ha).1⟩)
  ·exact .inr (.inr (by unfold bJ;rw[if_pos he,if_pos ha]))
 ·exact .inl ⟨he,(Ch he).1⟩
theorem wj (v:IV) (m:Img) (name:ByteArray) (w:World) (h:ImgR w w.heap.size v m) (hsz:name.size<=4611686018427387903):
  Calls prog 34 #[ae m v,.string name] w (aF w.heap.size (bu m name) (be m name) w):=by
 by_cases he:ab m=0
 ·by_cases hn:bj name=true
  ·by_cases ha:m.snaps.any (named name)=true
   ·have e:be m name=6:=by unfold be;rw[if_pos he,if_neg (by rw[hn];decide),if_pos ha]
    rw[show bu m name=aj from by unfold bu;rw[e,if_neg (by decide)],e]
    exact rr v m name w h he hsz hn ha
   ·have ha':m.snaps.any (named name)=false:=by simpa using ha
    by_cases h3:m.snaps.length=3
    ·have e:be m name=2:=by unfold be;rw[if_pos he,if_neg (by rw[hn];decide),if_neg ha,if_pos h3]
     rw[show bu m name=aj from by unfold bu;rw[e,if_neg (by decide)],e]
     exact tP v m name w h he hsz hn ha' h3
    ·have e:be m name=0:=by unfold be;rw[if_pos he,if_neg (by rw[hn];decide),if_neg ha,if_neg h3]
     rw[show bu m name=ap (cl m name)from by unfold bu;rw[if_pos e],e]
     exact zn v m name w h e hsz
  ·have hn':bj name=false:=by simpa using hn
   have e:be m name=4:=by unfold be;rw[if_pos he,if_pos hn']
   rw[show bu m name=aj from by unfold bu;rw[e,if_neg (by decide)],e]
   exact tO v m name w h he hsz hn'
 ·have e:be m name=ab m:=by unfold be;rw[if_neg he]
  rw[show bu m name=aj from by unfold bu;rw[e,if_neg he],e]
  exact zj v m name w h he
theorem wk (v:IV) (m:Img) (name:ByteArray) (w:World) (h:ImgR w w.heap.size v m):
  Calls prog 35 #[ae m v,.string name] w (aF w.heap.size (ce m name) (bJ m name) w):=by
 rcases iW m name with⟨he,e⟩|⟨he,hn,e⟩|e
 ·rw[show ce m name=aj from by unfold ce;rw[e,if_neg he],e]
  exact zk v m name w h he
 ·rw[show ce m name=aj from by unfold ce;rw[e,if_neg (by decide)],e]
  exact tM v m name w h he hn
 ·rw[show ce m name=ap (n9 m name)from by unfold ce;rw[if_pos e],e]
  exact zo v m name w h e
theorem wl (v:IV) (m:Img) (name:ByteArray) (w:World) (h:ImgR w w.heap.size v m):
  Calls prog 36 #[ae m v,.string name] w (aF w.heap.size (cf m name) (bJ m name) w):=by
 rcases iW m name with⟨he,e⟩|⟨he,hn,e⟩|e
 ·rw[show cf m name=aj from by unfold cf;rw[e,if_neg he],e]
  exact zm v m name w h he
 ·rw[show cf m name=aj from by unfold cf;rw[e,if_neg (by decide)],e]
  exact tN v m name w h he hn
 ·rw[show cf m name=ap (oX m name)from by unfold cf;rw[if_pos e],e]
  exact zp v m name w h e
theorem tR (v:IV) (m:Img) (name:ByteArray) (w:World) (h:ImgR w w.heap.size v m) (hsz:name.size<=4611686018427387903):
  Calls prog 91 #[ae m v,.string name] w (aF w.heap.size (bu m name) (be m name) w):=by
 by_cases he:ab m=0
 ·by_cases hn:bj name=true
  ·by_cases ha:m.snaps.any (named name)=true
   ·have e:be m name=6:=by unfold be;rw[if_pos he,if_neg (by rw[hn];decide),if_pos ha]
    rw[show bu m name=aj from by unfold bu;rw[e,if_neg (by decide)],e]
    exact o9 v m name w h he hsz hn ha
   ·have ha':m.snaps.any (named name)=false:=by simpa using ha
    by_cases h3:m.snaps.length=3
    ·have e:be m name=2:=by unfold be;rw[if_pos he,if_neg (by rw[hn];decide),if_neg ha,if_pos h3]
     rw[show bu m name=aj from by unfold bu;rw[e,if_neg (by decide)],e]
     exact ry v m name w h he hsz hn ha' h3
    ·have e:be m name=0:=by unfold be;rw[if_pos he,if_neg (by rw[hn];decide),if_neg ha,if_neg h3]
     rw[show bu m name=ap (cl m name)from by unfold bu;rw[if_pos e],e]
     exact we v m name w h e hsz
  ·have hn':bj name=false:=by simpa using hn
   have e:be m name=4:=by unfold be;rw[if_pos he,if_pos hn']
   rw[show bu m name=aj from by unfold bu;rw[e,if_neg (by decide)],e]
   exact rx v m name w h he hsz hn'
 ·have e:be m name=ab m:=by unfold be;rw[if_neg he]
  rw[show bu m name=aj from by unfold bu;rw[e,if_neg he],e]
  exact vX v m name w h he
theorem tS (v:IV) (m:Img) (name:ByteArray) (w:World) (h:ImgR w w.heap.size v m):
  Calls prog 92 #[ae m v,.string name] w (aF w.heap.size (ce m name) (bJ m name) w):=by
 rcases iW m name with⟨he,e⟩|⟨he,hn,e⟩|e
 ·rw[show ce m name=aj from by unfold ce;rw[e,if_neg he],e]
  exact vY v m name w h he
 ·rw[show ce m name=aj from by unfold ce;rw[e,if_neg (by decide)],e]
  exact ru v m name w h he hn
 ·rw[show ce m name=ap (n9 m name)from by unfold ce;rw[if_pos e],e]
  exact wf v m name w h e
theorem tT (v:IV) (m:Img) (name:ByteArray) (w:World) (h:ImgR w w.heap.size v m):
  Calls prog 93 #[ae m v,.string name] w (aF w.heap.size (cf m name) (bJ m name) w):=by
 rcases iW m name with⟨he,e⟩|⟨he,hn,e⟩|e
 ·rw[show cf m name=aj from by unfold cf;rw[e,if_neg he],e]
  exact vZ v m name w h he
 ·rw[show cf m name=aj from by unfold cf;rw[e,if_neg (by decide)],e]
  exact rv v m name w h he hn
 ·rw[show cf m name=ap (oX m name)from by unfold cf;rw[if_pos e],e]
  exact wh v m name w h e
end
section
open Go.Proofs.Tryz
open Go.RowKit Sl
theorem BI (l:List UInt8):Lib.cut l [32]=aR l:=by
 unfold Lib.cut
 rw[Lib.index_one]
 by_cases h0:0<=Lib.indexByte l 32
 ·obtain⟨k,hk⟩:∃k:Nat,Lib.indexByte l 32=(k:Nat):=⟨(Lib.indexByte l 32).toNat,by omega⟩
  obtain⟨h1,h2⟩:=Lib.indexByte_some hk
  rw[if_pos h0,hk,Int.toNat_natCast,xh (λj b hj hb he=>h2 j hj (by rw[hb,he])) h1]
  rfl
 ·rw[if_neg h0,xg λb hb he=>by
   obtain⟨j,hj⟩:=List.getElem?_of_mem hb
   rw[he]at hj
   exact Lib.indexByte_none (by have:=Lib.indexByte_ge l 32;omega) j hj]
theorem lR (l:List UInt8):(aR l).1.length<=l.length/\(aR l).2.1.length<=l.length:=by
 induction l with
 |nil=>exact⟨Nat.le_refl _,Nat.le_refl _⟩
 |cons b r ih=>
  unfold aR
  split
  ·simp
  ·simp only[List.length_cons];omega
theorem tU {B:Nat} {w:World} (hG:Glob B w) (s:ByteArray) (hs:s.size<=100000):Calls prog 27 #[.string s,.string {data:=#[32]}] w λe w'=>
  e=.returned (.tuple #[.string (ofL (aR (toL s)).1),.string (ofL (aR (toL s)).2.1),.bool (aR (toL s)).2.2])/\Below w.heap.size w w':=by
 obtain⟨x,hx⟩:=hG.len0
 refine(strings_Cut s {data:=#[32]} x w (by omega) hx).mono ?_
 rintro e w' ⟨rfl,n,rfl⟩
 have:=BI (toL s)
 refine⟨?_,zb (Below.refl _ _) _⟩
 rw[<-this]
 rfl
theorem ou (n:Nat):∀l:List UInt8,l.length<=n->Lib.replaceK [0] [46] (Lib.count l [0]) l=cC l:=by
 induction n with
 |zero=>
  intro l hl
  obtain rfl:=List.eq_nil_of_length_eq_zero (Nat.le_zero.1 hl)
  rfl
 |succ n ih=>
  intro l hl
  have hge:=Lib.indexByte_ge l 0
  by_cases hi:Lib.indexByte l 0= -1
  ·have hno:=Lib.indexByte_none hi
   rw[Lib.count_miss (by rw[Lib.index_one];exact hi)]
   unfold Lib.replaceK cC
   refine(List.map_id l).symm.trans (List.map_congr_left λb hb=>?_)
   obtain⟨j,hj⟩:=List.getElem?_of_mem hb
   have:b≠0:= λe=>hno j (by rw[hj,e])
   unfold shB
   rw[if_neg this]
   rfl
  ·obtain⟨k,hk⟩:∃k:Nat,Lib.indexByte l 0=(k:Nat):=⟨(Lib.indexByte l 0).toNat,by omega⟩
   obtain⟨h1,h2⟩:=Lib.indexByte_some hk
   have hkl:=(zl h1)
   have hx:Lib.index l [0]=(k:Nat):=by rw[Lib.index_one];exact hk
   rw[Lib.count_hit (by simp) hx,Nat.add_comm,Lib.replaceK_hit _ _ _ _ _ hx,show([0]:List UInt8).length=1 from rfl,ih _ (by rw[List.length_drop];omega)]
   have e:l=l.take k++0::l.drop (k+1):=by
    conv=>lhs;rw[<-List.take_append_drop k l,List.drop_eq_getElem_cons hkl]
    rw[(List.getElem?_eq_some_iff.1 h1).2]
   conv=>rhs;rw[e]
   unfold cC
   rw[List.map_append,List.map_cons,show shB 0=46 from rfl]
   have e2:(l.take k).map shB=l.take k:=by
    conv=>rhs;rw[<-List.map_id (l.take k)]
    refine List.map_congr_left λb hb=>?_
    obtain⟨j,hj⟩:=List.getElem?_of_mem hb
    have hjk:=(zl hj)
    rw[List.length_take]at hjk
    rw[List.getElem?_take_of_lt (by omega)]at hj
    have:b≠0:= λe=>h2 j (by omega) (by rw[hj,e])
    unfold shB
    rw[if_neg this]
    rfl
   rw[e2]
   simp
theorem BJ {B:Nat} {w:World} (hG:Glob B w) (s:ByteArray) (hs:s.size<=100000):Calls prog 39 #[.string s,.string {data:=#[0]},.string {data:=#[46]}] w λe w'=>
  e=.returned (.string (ofL (cC (toL s))))/\Below w.heap.size w w':=by
 obtain⟨x,hx⟩:=hG.len0
 have hc:=Lib.countB_le {data:=#[0]} (by decide) s.size s (Nat.le_refl _)
 refine(strings_ReplaceAll s {data:=#[0]} {data:=#[46]} x w (by omega) hx (by decide) (by rw[show({data:=#[46]}:ByteArray).size=1 from rfl];omega)).mono ?_
 rintro e w' ⟨rfl,hb⟩
 refine⟨?_,hb⟩
 have:Lib.replaceAll (toL s) [0] [46]=cC (toL s):=by
  unfold Lib.replaceAll Lib.replace Lib.replaceNum
  rw[if_neg (by decide),if_pos (.inl (by decide))]
  exact ou _ _ (Nat.le_refl _)
 rw[<-this]
 rfl
section
variable {tb B:Nat} {m:Img} {w:World}
theorem wm {z:Img} {er:Int} {W:World} {e:Ending} {w':World} (h:LOut tb m (bT z er) W e w'):
  (er=0/\e=.returned (.string {data:=#[111,107]})/\Tb w' tb z/\W.grownBy w' (some tb))\/(er≠0/\e=.panicked [{v:=oU er,recovered:=false}]/\Tb w' tb m/\W.grownBy w' (some tb)):=by
 unfold bT at h
 split at h
 ·rename_i he;exact .inl ⟨he,h.1,h.2.1,h.2.2⟩
 ·rename_i he;exact .inr ⟨he,h.1,h.2.1,h.2.2⟩
theorem mC {z:Img} {er:Int} {W:World} {e:Ending} {w':World} {s:ByteArray} (h:LOut tb m (bT z er) W e w') (ho:StrB W w.heap.size s) (hb:Below w.heap.size w W) (hl:tb<w.heap.size):
  (er=0/\e=.returned (.string {data:=#[111,107]})/\w'.cell? ⟨w.heap.size,0,none⟩=some (.string s)/\w'.frozen? ⟨w.heap.size,0,none⟩=false/\Tb (w'.setCell ⟨w.heap.size,0,none⟩ (.string {data:=#[111,107]})) tb z/\
   StrB (w'.setCell ⟨w.heap.size,0,none⟩ (.string {data:=#[111,107]})) w.heap.size (ofL okT)/\w.grownBy (w'.setCell ⟨w.heap.size,0,none⟩ (.string {data:=#[111,107]})) (some tb))\/
  (er≠0/\e=.panicked [{v:=oU er,recovered:=false}]/\Tb w' tb m/\StrB w' w.heap.size s/\w.grownBy w' (some tb)):=by
 rcases wm h with⟨he,h1,hT,hg⟩|⟨he,h1,hT,hg⟩
 ·have h4:=ho.kept hg (λe=>by injection e;omega)
  exact .inl ⟨he,h1,h4.cell,h4.froz,hT.kept (ai w' w.heap.size 0 (.string {data:=#[111,107]})) h4.ty (by decide) (by decide) (by decide) (by omega),h4.set _,cD ((aY hb).trans hg) (Nat.le_refl _) 0 _⟩
 ·exact .inr ⟨he,h1,hT,ho.kept hg (λe=>by injection e;omega),(aY hb).trans hg⟩
theorem wn (t:Array Value) (k:Nat) (hk:4<k) (x:Value):results Tryz.f12 (t.setIfInBounds k x)=results Tryz.f12 t:=by
 simp[results,results12,Array.getElem?_setIfInBounds,show¬k=4 by omega]
theorem ln_hQ {R:Ending->World->Prop} {k:Nat} {x:Value} (hk:4<k) {c:List PanicEntry} {a:Act} {w:World} (h:bodyPostD prog Tryz.f12 R (.panic c) (a.put (some k) x) w):bodyPostD prog Tryz.f12 R (.panic c) a w:=
 gV (wn a.tmps k hk x) _ _ _ h
variable (h:Tb w tb m) (hm:ab m=0) (hG:Glob B w) (hB:B<=tb) (s:ByteArray)
include h hm
theorem ow (r o:ByteArray) (hr:r.size<=100000) (z:Img) (er:Int) (KC:∀W,Below w.heap.size w W->Calls prog 27 #[.string s,.string {data:=#[32]}] W λe w'=>e=.returned (.tuple #[.string o,.string r,.bool true])/\Below W.heap.size W w')
  (hc:(o={data:=#[115,110,97,112]}/\bu m r=z/\be m r=er)\/(o={data:=#[98,97,99,107]}/\ce m r=z/\bJ m r=er)\/(o={data:=#[100,114,111,112]}/\cf m r=z/\bJ m r=er)):
  Calls prog 12 #[.pointer (some ⟨tb,0,none⟩),.string s] w (oZ tb (kU m (bT z er)) w):=by
 have hmf:∀(fn:Fn) (first cap:Array Value) (w:World),(Instr.makeFunc fn first cap).run prog w=.ok (.func fn first cap) w:= λ_ _ _ _=>rfl
 have HB1:=zh (ac w (.cells #[.string {data:=#[]}] 9))
 have HO:=zh (StrB.new w {data:=#[]})
 have hl:=h.ty.ty.lt
 obtain⟨base,tg,v,q,p,ho,hx⟩:=h.img
 have KT:= λv' z er W (hb:Below w.heap.size w W) hf=>jH tb m z v' er W (h.next hb) hf
 have HX:=zh (λW (hb:Below w.heap.size w W)=>hx.keep hb hl)
 have he:0<=er/\er<=9:=by
  rcases hc with⟨_,_,rfl⟩|⟨_,_,rfl⟩|⟨_,_,rfl⟩
  ·unfold be;rw[if_pos hm];split;decide;split;decide;split<;>decide
  all_goals unfold bJ;rw[if_pos hm];split<;>decide
 have hr0:er=0->ab z=0:=by
  rcases hc with⟨_,rfl,rfl⟩|⟨_,rfl,rfl⟩|⟨_,rfl,rfl⟩
  ·exactλhe=>(jz he).1
  ·exactλhe=>(jA he).1
  ·exactλhe=>(jB he).1
 have HR:=zh hr0
 have HE:=zh he
 rcases hc with⟨rfl,hz,he⟩|⟨rfl,hz,he⟩|⟨rfl,hz,he⟩
 case' inl=>have KP:= λW (hb:Below w.heap.size w W)=>wj v m r W (ho.imgR.next hb) (by omega)
 case' inr.inl=>have KP:= λW (hb:Below w.heap.size w W)=>wk v m r W (ho.imgR.next hb)
 case' inr.inr=>have KP:= λW (hb:Below w.heap.size w W)=>wl v m r W (ho.imgR.next hb)
 all_goals
  rw[hz,he]at KP
  obtain⟨rA,rn,rc,sA,sn,sc,fA,fn,fc,pA,pn,pc⟩:=v
  dsimp only[ae]at KP HX
  have HC:=zh KC
  have HP:=zh KP
  have HT:=zh KT
  clear h hm ho hx KC KP KT hr hz he hr0
  go_enter_defers func12,ntmps12
  go_wp2_with fail
  generalize w.alloc (.cells #[.string {data:=#[]}] 9)=W1 at*
  refine(HC.o _ HB1.o).mono ?_
  rintro e w2 ⟨rfl,hb2⟩
  have HB2:=zh (aa HB1.o hb2)
  have HO2:=zh (HO.o.next hb2)
  clear hb2 HB1 HO HC
  obtain⟨x0,x1,x2,x3,x4⟩:=HX.o w2 HB2.o
  dsimp only at x0 x1 x2 x3 x4
  go_wp2_with fail
  refine(HP.o _ HB2.o).mono ?_
  rintro e w3 ⟨v',rfl,hf,hb3⟩
  have HB3:=zh (aa HB2.o hb3)
  have HO3:=zh (HO2.o.next hb3)
  have HK:=zh (HT.o v' z er w3 HB3.o (λhe=>hf.own (HR.o he)))
  clear hb3 hf HR HT HP HB2 HO2 x0 x1 x2 x3 x4
  go_wp2_with fail
  refine HK.o.mono ?_
  rintro e w4 hL
  rcases mC hL HO3.o HB3.o hl with⟨he,rfl,c4,f4,HF⟩|⟨he,rfl,HF⟩
  ·have HF:=zh HF
   clear hL
   go_wp2_with fail
   exact lQ (by unfold bT;rw[if_pos he];rfl) HF.o.1 HF.o.2.1 HF.o.2.2 rfl
  ·exact dD (by unfold bT;rw[if_neg he];rfl) HE.o.1 HE.o.2 HF.1 HF.2.1 HF.2.2 hl rfl
include hG hB
theorem wo (r o:ByteArray) (hr:r.size<=100000) (I:Nat->Img) (E:Nat->Int) (KC:∀W,Below w.heap.size w W->Calls prog 27 #[.string s,.string {data:=#[32]}] W λe w'=>e=.returned (.tuple #[.string o,.string r,.bool true])/\Below W.heap.size W w')
  (hc:(o={data:=#[115,105,122,101]}/\(I= λn:Nat=>eQ m n)/\E= λn:Nat=>dG m n)\/(o={data:=#[119,105,112,101]}/\(I= λn:Nat=>iu m n (-1))/\E= λn:Nat=>fm m n (-1))\/(o={data:=#[112,117,110,99,104]}/\(I= λn:Nat=>iu m n 0)/\E= λn:Nat=>fm m n 0)):
  Calls prog 12 #[.pointer (some ⟨tb,0,none⟩),.string s] w (oZ tb (kU m (dt (toL r) λn=>bT (I n) (E n))) w):=by
 have hmf:∀(fn:Fn) (first cap:Array Value) (w:World),(Instr.makeFunc fn first cap).run prog w=.ok (.func fn first cap) w:= λ_ _ _ _=>rfl
 have HB1:=zh (ac w (.cells #[.string {data:=#[]}] 9))
 have HO:=zh (StrB.new w {data:=#[]})
 have hl:=h.ty.ty.lt
 obtain⟨base,tg,v,q,p,ho,hx⟩:=h.img
 have KN:= λW (hb:Below w.heap.size w W)=>qV B r W (hG.below hb (by omega)) (by have:=hb.size;omega) (by omega)
 have KT:= λv' z er W (hb:Below w.heap.size w W) hf=>jH tb m z v' er W (h.next hb) hf
 have KX:= λW (hb:Below w.heap.size w W)=>hx.keep hb hl
 have KE:∀n,0<=E n/\E n<=9:=by
  intro n
  rcases hc with⟨_,_,rfl⟩|⟨_,_,rfl⟩|⟨_,_,rfl⟩
  ·show 0<=dG m n/\dG m n<=9
   unfold dG;rw[if_pos hm];split;have:=fL (bW m (n:Int).toNat);omega;decide
  ·show 0<=fm m n (-1)/\fm m n (-1)<=9
   unfold fm;split;have:=fL (dP m (n:Int).toNat (-1));omega;have:=dR hm n;omega
  ·show 0<=fm m n 0/\fm m n 0<=9
   unfold fm;split;have:=fL (dP m (n:Int).toNat 0);omega;have:=dR hm n;omega
 have KR:∀n,E n=0->ab (I n)=0:=by
  intro n
  rcases hc with⟨_,rfl,rfl⟩|⟨_,rfl,rfl⟩|⟨_,rfl,rfl⟩
  ·exactλhe=>(n7 he).1
  ·exactλhe=>(iw (by decide) (by decide) he).1
  ·exactλhe=>(iw (by decide) (by decide) he).1
 obtain⟨sr,hsr⟩:∃sr,sr=kU m (dt (toL r) λn=>bT (I n) (E n)):=⟨_,rfl⟩
 rw[<-hsr]
 have HSR:=zh hsr
 rcases hc with⟨rfl,hI,hE⟩|⟨rfl,hI,hE⟩|⟨rfl,hI,hE⟩
 case' inl=>have KP:= λ(n:Nat) W (hb:Below w.heap.size w W)=>vx v m (n:Int) W (ho.imgR.next hb) (λx hm h0 h16 hx=>xY x hm h0 h16 hx)
 case' inr.inl=>have KP:= λ(n:Nat) W (hb:Below w.heap.size w W)=>Ba v m (n:Int) W (ho.imgR.next hb) (λx he hx=>Ao (by decide) (by decide) x he hx)
 case' inr.inr=>have KP:= λ(n:Nat) W (hb:Below w.heap.size w W)=>yG v m (n:Int) W (ho.imgR.next hb) (λx he hx=>Ao (by decide) (by decide) x he hx)
 all_goals
  simp only[<-congrFun hI,<-congrFun hE]at KP
  obtain⟨rA,rn,rc,sA,sn,sc,fA,fn,fc,pA,pn,pc⟩:=v
  dsimp only[ae]at KP KX
  have HC:=zh KC
  have KT0:=zh (λW (hb:Below w.heap.size w W)=>h.next hb)
  have HP:=zh KP
  have HT:=zh KT
  have HN:=zh KN
  have HX:=zh KX
  have HR:=zh KR
  have HE:=zh KE
  clear h hm ho hx KC KP KT hr KN KX KR KE hI hE hG hsr
  go_enter_defers func12,ntmps12
  go_wp2_with fail
  generalize w.alloc (.cells #[.string {data:=#[]}] 9)=W1 at*
  refine(HC.o _ HB1.o).mono ?_
  rintro e w2 ⟨rfl,hb2⟩
  have HB2:=zh (aa HB1.o hb2)
  have HO2:=zh (HO.o.next hb2)
  clear hb2 HB1 HO HC
  go_wp2_with fail
  refine eS (λW'=>(W'.cell? ⟨tb,0,none⟩=some (.int .i64 m.guest)/\W'.cell? ⟨tb,1,none⟩=some (.slice rA rn rc)/\W'.cell? ⟨tb,2,none⟩=some (.slice sA sn sc)/\W'.cell? ⟨tb,3,none⟩=some (.slice fA fn fc)/\W'.cell? ⟨tb,4,none⟩=some (.slice pA pn pc))) 10 ?_
  have HS:=zh (λW (hb:Below w.heap.size w W)=>(show(W.cell? ⟨tb,0,none⟩=some (.int .i64 m.guest)/\W.cell? ⟨tb,1,none⟩=some (.slice rA rn rc)/\W.cell? ⟨tb,2,none⟩=some (.slice sA sn sc)/\W.cell? ⟨tb,3,none⟩=some (.slice fA fn fc)/\W.cell? ⟨tb,4,none⟩=some (.slice pA pn pc))from HX.o W hb))
  have hSS:=HS.o w2.drew HB2.o.drew
  refine zgo 0 ?_
  refine zgo 1 ?_
  refine zgo 2 ?_
  refine zgo 3 ?_
  refine zgo 4 ?_
  refine zgo 5 ?_
  clear hSS
  refine aP 6 λK' hK=>?_;go_simp
  have K6:=HN.o w2.drew HB2.o.drew
  cases hn:eD (toL r)with
  |none=>
   rw[hn]at K6
   refine K6.mono ?_
   rintro e w3 ⟨rfl,hb3⟩
   exact dD (by rw[HSR.o];unfold dt;rw[hn];rfl) (by decide) (by decide) (KT0.o _ (aa HB2.o.drew hb3)) (HO2.o.drew.next hb3) (aY (aa HB2.o.drew hb3)) hl rfl
  |some n=>
   rw[hn]at K6
   have HSR2:=zh (show sr=kU m (bT (I n) (E n))from by rw[HSR.o];unfold dt;rw[hn])
   have HPn:=zh (HP.o n)
   have HRn:=zh (HR.o n)
   have HEn:=zh (HE.o n)
   clear HSR HP HR HE hn
   generalize I n=z at*
   generalize E n=er at*
   refine K6.mono ?_
   rintro e w3 ⟨rfl,hb3⟩
   have HB3:=zh (aa HB2.o.drew hb3)
   have HO3:=zh (HO2.o.drew.next hb3)
   clear hb3 K6 HN
   refine hK.o _ _ (λ_=>HS.o _ HB3.o) ?_
   clear hK
   refine aP 7 λK' hK=>?_
   go_simp
   refine(HPn.o _ HB3.o).mono ?_
   rintro e w4 ⟨v',rfl,hf,hb4⟩
   have HB4:=zh (aa HB3.o hb4)
   have HO4:=zh (HO3.o.next hb4)
   have HK:=zh (HT.o v' z er w4 HB4.o (λhe=>hf.own (HRn.o he)))
   have hSS:=HS.o w4 HB4.o
   clear hb4 hf HRn HT HPn HO3 HB3
   refine hK.nx ?_
   clear hK
   refine zgo 8 ?_
   refine zgo 9 ?_
   clear hSS
   refine aP 10 λK' hK=>?_
   go_simp
   refine HK.o.mono ?_
   rintro e w5 hL
   rcases mC hL HO4.o HB4.o hl with⟨he,rfl,c4,f4,HF⟩|⟨he,rfl,HF⟩
   ·have HF:=zh HF
    clear hL
    refine hK.nx ?_
    clear hK
    refine aP 11 λK' hK=>?_
    go_simp
    refine hK.nx ?_
    clear hK
    refine cT ?_
    go_wp2_with fail
    exact lQ (by rw[HSR2.o];unfold bT;rw[if_pos he];rfl) HF.o.1 HF.o.2.1 HF.o.2.2 rfl
   ·exact dD (by rw[HSR2.o];unfold bT;rw[if_neg he];rfl) HEn.o.1 HEn.o.2 HF.1 HF.2.1 HF.2.2 hl rfl
theorem BK (r a pg:ByteArray) (ha:a.size<=100000) (KC:∀W,Below w.heap.size w W->Calls prog 27 #[.string s,.string {data:=#[32]}] W λe w'=>e=.returned (.tuple #[.string {data:=#[119,114,105,116,101]},.string r,.bool true])/\Below W.heap.size W w') (KC2:∀W,Below w.heap.size w W->Calls prog 27 #[.string r,.string {data:=#[32]}] W λe w'=>e=.returned (.tuple #[.string a,.string pg,.bool true])/\Below W.heap.size W w'):
  Calls prog 12 #[.pointer (some ⟨tb,0,none⟩),.string s] w (oZ tb (kU m (dt (toL a) λn=>bT (eP m n pg) (dE m n pg))) w):=by
 have hmf:∀(fn:Fn) (first cap:Array Value) (w:World),(Instr.makeFunc fn first cap).run prog w=.ok (.func fn first cap) w:= λ_ _ _ _=>rfl
 have HB1:=zh (ac w (.cells #[.string {data:=#[]}] 9))
 have HO:=zh (StrB.new w {data:=#[]})
 have hl:=h.ty.ty.lt
 obtain⟨base,tg,v,q,p,ho,hx⟩:=h.img
 have KP:= λ(n:Nat) W (hb:Below w.heap.size w W)=>yF v m (n:Int) pg W (ho.imgR.next hb) (λx he hp hx=>An x he hp hx)
 have KN:= λW (hb:Below w.heap.size w W)=>qV B a W (hG.below hb (by omega)) (by have:=hb.size;omega) (by omega)
 have KT:= λv' z er W (hb:Below w.heap.size w W) hf=>jH tb m z v' er W (h.next hb) hf
 have KX:= λW (hb:Below w.heap.size w W)=>hx.keep hb hl
 have KR:= λ(n:Nat) (he:dE m n pg=0)=>(n0 he).1
 have KE:= λ(n:Nat)=>(show 0<=dE m n pg/\dE m n pg<=9 from by unfold dE;split;split;have:=fL (cv m (n:Int).toNat pg);omega;decide;have:=dR hm n;omega)
 obtain⟨I,hI⟩:∃I:Nat->Img,I= λn:Nat=>eP m n pg:=⟨_,rfl⟩
 obtain⟨E,hE⟩:∃E:Nat->Int,E= λn:Nat=>dE m n pg:=⟨_,rfl⟩
 rw[show(dt (toL a) λn=>bT (eP m n pg) (dE m n pg))=dt (toL a) λn=>bT (I n) (E n)from by rw[hI,hE]]
 obtain⟨sr,hsr⟩:∃sr,sr=kU m (dt (toL a) λn=>bT (I n) (E n)):=⟨_,rfl⟩
 rw[<-hsr]
 have HSR:=zh hsr
 simp only[<-congrFun hI,<-congrFun hE]at KP KR KE
 obtain⟨rA,rn,rc,sA,sn,sc,fA,fn,fc,pA,pn,pc⟩:=v
 dsimp only[ae]at KP KX
 have HC:=zh KC
 have HC2:=zh KC2
 have KT0:=zh (λW (hb:Below w.heap.size w W)=>h.next hb)
 have HP:=zh KP
 have HT:=zh KT
 have HN:=zh KN
 have HX:=zh KX
 have HR:=zh KR
 have HE:=zh KE
 clear h hm ho hx KC KP KT ha KN KC2 KX KR KE hI hE hG hsr
 go_enter_defers func12,ntmps12
 go_wp2_with fail
 generalize w.alloc (.cells #[.string {data:=#[]}] 9)=W1 at*
 refine(HC.o _ HB1.o).mono ?_
 rintro e w2 ⟨rfl,hb2⟩
 have HB2:=zh (aa HB1.o hb2)
 have HO2:=zh (HO.o.next hb2)
 clear hb2 HB1 HO HC
 go_wp2_with fail
 refine(HC2.o _ HB2.o).mono ?_
 rintro e w2' ⟨rfl,hb2⟩
 have HB2:=zh (aa HB2.o hb2)
 have HO2:=zh (HO2.o.next hb2)
 clear hb2
 go_wp2_with fail
 refine eS (λW'=>(W'.cell? ⟨tb,0,none⟩=some (.int .i64 m.guest)/\W'.cell? ⟨tb,1,none⟩=some (.slice rA rn rc)/\W'.cell? ⟨tb,2,none⟩=some (.slice sA sn sc)/\W'.cell? ⟨tb,3,none⟩=some (.slice fA fn fc)/\W'.cell? ⟨tb,4,none⟩=some (.slice pA pn pc))) 11 ?_
 have HS:=zh (λW (hb:Below w.heap.size w W)=>(show(W.cell? ⟨tb,0,none⟩=some (.int .i64 m.guest)/\W.cell? ⟨tb,1,none⟩=some (.slice rA rn rc)/\W.cell? ⟨tb,2,none⟩=some (.slice sA sn sc)/\W.cell? ⟨tb,3,none⟩=some (.slice fA fn fc)/\W.cell? ⟨tb,4,none⟩=some (.slice pA pn pc))from HX.o W hb))
 have hSS:=HS.o w2'.drew HB2.o.drew
 refine zgo 0 ?_
 refine zgo 1 ?_
 refine zgo 2 ?_
 refine zgo 3 ?_
 refine zgo 4 ?_
 refine zgo 5 ?_
 refine zgo 7 ?_
 clear hSS
 refine aP 6 λK' hK=>?_;go_simp
 have K6:=HN.o w2'.drew HB2.o.drew
 cases hn:eD (toL a)with
 |none=>
  rw[hn]at K6
  refine K6.mono ?_
  rintro e w3 ⟨rfl,hb3⟩
  exact dD (by rw[HSR.o];unfold dt;rw[hn];rfl) (by decide) (by decide) (KT0.o _ (aa HB2.o.drew hb3)) (HO2.o.drew.next hb3) (aY (aa HB2.o.drew hb3)) hl rfl
 |some n=>
  rw[hn]at K6
  have HSR2:=zh (show sr=kU m (bT (I n) (E n))from by rw[HSR.o];unfold dt;rw[hn])
  have HPn:=zh (HP.o n)
  have HRn:=zh (HR.o n)
  have HEn:=zh (HE.o n)
  clear HSR HP HR HE hn
  generalize I n=z at*
  generalize E n=er at*
  refine K6.mono ?_
  rintro e w3 ⟨rfl,hb3⟩
  have HB3:=zh (aa HB2.o.drew hb3)
  have HO3:=zh (HO2.o.drew.next hb3)
  clear hb3 K6 HN
  refine hK.o _ _ (λ_=>HS.o _ HB3.o) ?_
  clear hK
  refine aP 8 λK' hK=>?_
  go_simp
  refine(HPn.o _ HB3.o).mono ?_
  rintro e w4 ⟨v',rfl,hf,hb4⟩
  have HB4:=zh (aa HB3.o hb4)
  have HO4:=zh (HO3.o.next hb4)
  have HK:=zh (HT.o v' z er w4 HB4.o (λhe=>hf.own (HRn.o he)))
  have hSS:=HS.o w4 HB4.o
  clear hb4 hf HRn HT HPn HO3 HB3
  refine hK.nx ?_
  clear hK
  refine zgo 9 ?_
  refine zgo 10 ?_
  clear hSS
  refine aP 11 λK' hK=>?_
  go_simp
  refine HK.o.mono ?_
  rintro e w5 hL
  rcases mC hL HO4.o HB4.o hl with⟨he,rfl,c4,f4,HF⟩|⟨he,rfl,HF⟩
  ·have HF:=zh HF
   clear hL
   refine hK.nx ?_
   clear hK
   refine aP 12 λK' hK=>?_
   go_simp
   refine hK.nx ?_
   clear hK
   refine cT ?_
   go_wp2_with fail
   exact lQ (by rw[HSR2.o];unfold bT;rw[if_pos he];rfl) HF.o.1 HF.o.2.1 HF.o.2.2 rfl
  ·exact dD (by rw[HSR2.o];unfold bT;rw[if_neg he];rfl) HEn.o.1 HEn.o.2 HF.1 HF.2.1 HF.2.2 hl rfl
theorem CS (r:ByteArray) (hr:r.size<=100000) (KC:∀W,Below w.heap.size w W->Calls prog 27 #[.string s,.string {data:=#[32]}] W λe w'=>e=.returned (.tuple #[.string {data:=#[114,101,97,100]},.string r,.bool true])/\Below W.heap.size W w'):
  Calls prog 12 #[.pointer (some ⟨tb,0,none⟩),.string s] w (oZ tb (kU m (dt (toL r) λn=>if aE m n=0 then .yes m (cC (toL (fC m n)))else .no (aE m n))) w):=by
 have hmf:∀(fn:Fn) (first cap:Array Value) (w:World),(Instr.makeFunc fn first cap).run prog w=.ok (.func fn first cap) w:= λ_ _ _ _=>rfl
 have HB1:=zh (ac w (.cells #[.string {data:=#[]}] 9))
 have HO:=zh (StrB.new w {data:=#[]})
 have hl:=h.ty.ty.lt
 obtain⟨base,tg,v,q,p,ho,hx⟩:=h.img
 have KP:= λ(n:Nat) W (hb:Below w.heap.size w W)=>yo v m (n:Int) W (ho.imgR.next hb)
 have KN:= λW (hb:Below w.heap.size w W)=>qV B r W (hG.below hb (by omega)) (by have:=hb.size;omega) (by omega)
 have KX:= λW (hb:Below w.heap.size w W)=>hx.keep hb hl
 have KA:= λ(n:Nat) (he:aE m n=0) W (hb:Below w.heap.size w W)=>BJ (hG.below hb (by omega)) (fC m n) (by unfold fC;rw[if_pos he,l8 (je hm _ _)];decide)
 have HE:=zh (λ(n:Nat)=>dR hm n)
 have KM0:=zh qU
 have KM:=zh jZ
 obtain⟨sr,hsr⟩:∃sr,sr=kU m (dt (toL r) λn=>if aE m n=0 then .yes m (cC (toL (fC m n)))else .no (aE m n)):=⟨_,rfl⟩
 rw[<-hsr]
 have HSR:=zh hsr
 obtain⟨rA,rn,rc,sA,sn,sc,fA,fn,fc,pA,pn,pc⟩:=v
 dsimp only[ae]at KP KX
 have HC:=zh KC
 have HT:=zh (λW (hb:Below w.heap.size w W)=>h.next hb)
 have HP:=zh KP
 have HN:=zh KN
 have HX:=zh KX
 have HA:=zh KA
 clear h hm ho hx KC KP hr KN KX KA hG hsr
 go_enter_defers func12,ntmps12
 go_wp2_with fail
 generalize w.alloc (.cells #[.string {data:=#[]}] 9)=W1 at*
 refine(HC.o _ HB1.o).mono ?_
 rintro e w2 ⟨rfl,hb2⟩
 have HB2:=zh (aa HB1.o hb2)
 have HO2:=zh (HO.o.next hb2)
 clear hb2 HB1 HO HC
 go_wp2_with fail
 refine eS (λW'=>(W'.cell? ⟨tb,0,none⟩=some (.int .i64 m.guest)/\W'.cell? ⟨tb,1,none⟩=some (.slice rA rn rc)/\W'.cell? ⟨tb,2,none⟩=some (.slice sA sn sc)/\W'.cell? ⟨tb,3,none⟩=some (.slice fA fn fc)/\W'.cell? ⟨tb,4,none⟩=some (.slice pA pn pc))) 12 ?_
 have HS:=zh (λW (hb:Below w.heap.size w W)=>(show(W.cell? ⟨tb,0,none⟩=some (.int .i64 m.guest)/\W.cell? ⟨tb,1,none⟩=some (.slice rA rn rc)/\W.cell? ⟨tb,2,none⟩=some (.slice sA sn sc)/\W.cell? ⟨tb,3,none⟩=some (.slice fA fn fc)/\W.cell? ⟨tb,4,none⟩=some (.slice pA pn pc))from HX.o W hb))
 have hSS:=HS.o w2.drew HB2.o.drew
 refine zgo 0 ?_
 refine zgo 1 ?_
 refine zgo 2 ?_
 refine zgo 3 ?_
 refine zgo 4 ?_
 clear hSS
 refine aP 5 λK' hK=>?_;go_simp
 have K6:=HN.o w2.drew HB2.o.drew
 cases hn:eD (toL r)with
 |none=>
  rw[hn]at K6
  refine K6.mono ?_
  rintro e w3 ⟨rfl,hb3⟩
  exact dD (by rw[HSR.o];unfold dt;rw[hn];rfl) (by decide) (by decide) (HT.o _ (aa HB2.o.drew hb3)) (HO2.o.drew.next hb3) (aY (aa HB2.o.drew hb3)) hl rfl
 |some n=>
  rw[hn]at K6
  have HSR2:=zh (show sr=kU m (if aE m n=0 then .yes m (cC (toL (fC m n)))else .no (aE m n))from by rw[HSR.o];unfold dt;rw[hn])
  have HPn:=zh (HP.o n)
  have HAn:=zh (HA.o n)
  have HEn:=zh (HE.o n)
  clear HSR HP HA HE hn
  generalize fC m n=z at*
  generalize aE m n=er at*
  refine K6.mono ?_
  rintro e w3 ⟨rfl,hb3⟩
  have HB3:=zh (aa HB2.o.drew hb3)
  have HO3:=zh (HO2.o.drew.next hb3)
  clear hb3 K6 HN
  refine hK.o _ _ (λ_=>HS.o _ HB3.o) ?_
  clear hK
  refine aP 6 λK' hK=>?_
  go_simp
  refine(HPn.o _ HB3.o).mono ?_
  rintro e w4 ⟨rfl,hb4⟩
  have HB4:=zh (aa HB3.o hb4)
  have HO4:=zh (HO3.o.next hb4)
  have hSS:=HS.o w4 HB4.o
  clear hb4 HPn HO3 HB3
  refine hK.nx ?_
  clear hK
  refine zgo 7 ?_
  refine zgo 8 ?_
  refine zgo 9 ?_
  refine zgo 10 ?_
  refine zgo 11 ?_
  clear hSS
  refine cT ?_
  by_cases he:er=0
  ·subst he
   have HF:=zh (HAn.o rfl)
   go_wp2_with fail
   refine(KM0.o _).mono ?_
   rintro e w5 ⟨rfl,rfl⟩
   go_wp2_with fail
   refine(HF.o _ HB4.o).mono ?_
   rintro e w6 ⟨rfl,hb6⟩
   have h6:=HO4.o.next hb6
   have c6:=h6.cell
   have f6:=h6.froz
   have HH:=zh (And.intro ((HT.o _ (aa HB4.o hb6)).kept (ai w6 w.heap.size 0 (.string (ofL (cC (toL z))))) h6.ty (by decide) (by decide) (by decide) (by omega)) (And.intro (h6.set (ofL (cC (toL z)))) (cD (aY (r:=some tb) (aa HB4.o hb6)) (Nat.le_refl _) 0 (.string (ofL (cC (toL z)))))))
   clear h6 hb6 HF HAn
   go_wp2_with fail
   exact lQ (by rw[HSR2.o];rfl) HH.o.1 HH.o.2.1 HH.o.2.2 rfl
  ·go_wp2_with fail
   refine(KM.o er _ he).mono ?_
   rintro e w5 ⟨rfl,rfl⟩
   exact dD (by rw[HSR2.o,if_neg he];rfl) HEn.o.1 HEn.o.2 (HT.o _ HB4.o) HO4.o (aY HB4.o) hl rfl
omit hm hG hB in
theorem BL (o r:ByteArray) (h0:toL o≠[115,105,122,101]) (h1:toL o≠[119,105,112,101]) (h2:toL o≠[112,117,110,99,104]) (h3:toL o≠[115,110,97,112]) (h4:toL o≠[98,97,99,107]) (h5:toL o≠[100,114,111,112]) (h6:toL o≠[114,101,97,100]) (h7:toL o≠[119,114,105,116,101]) (KC:∀W,Below w.heap.size w W->Calls prog 27 #[.string s,.string {data:=#[32]}] W λe w'=>e=.returned (.tuple #[.string o,.string r,.bool true])/\Below W.heap.size W w'):
  Calls prog 12 #[.pointer (some ⟨tb,0,none⟩),.string s] w (oZ tb (kU m (.no 1)) w):=by
 have hmf:∀(fn:Fn) (first cap:Array Value) (w:World),(Instr.makeFunc fn first cap).run prog w=.ok (.func fn first cap) w:= λ_ _ _ _=>rfl
 have HB1:=zh (ac w (.cells #[.string {data:=#[]}] 9))
 have HO:=zh (StrB.new w {data:=#[]})
 have hl:=h.ty.ty.lt
 have HT:=zh (λW (hb:Below w.heap.size w W)=>h.next hb)
 have HC:=zh KC
 have KM:=zh (λW=>jZ 1 W (by decide))
 have q0:=bM h0
 have q1:=bM h1
 have q2:=bM h2
 have q3:=bM h3
 have q4:=bM h4
 have q5:=bM h5
 have q6:=bM h6
 have q7:=bM h7
 clear h KC h0 h1 h2 h3 h4 h5 h6 h7
 go_enter_defers func12,ntmps12
 go_wp2_with fail
 generalize w.alloc (.cells #[.string {data:=#[]}] 9)=W1 at*
 refine(HC.o _ HB1.o).mono ?_
 rintro e w2 ⟨rfl,hb2⟩
 have HB2:=zh (aa HB1.o hb2)
 have HO2:=zh (HO.o.next hb2)
 clear hb2 HB1 HO HC
 go_wp2_with fail
 refine(KM.o _).mono ?_
 rintro e w4 ⟨rfl,rfl⟩
 exact dD rfl (by decide) (by decide) (HT.o _ HB2.o) HO2.o (aY HB2.o) hl rfl
omit hm hG hB in
theorem Dt (r a pg:ByteArray) (KC:∀W,Below w.heap.size w W->Calls prog 27 #[.string s,.string {data:=#[32]}] W λe w'=>e=.returned (.tuple #[.string {data:=#[119,114,105,116,101]},.string r,.bool true])/\Below W.heap.size W w') (KC2:∀W,Below w.heap.size w W->Calls prog 27 #[.string r,.string {data:=#[32]}] W λe w'=>e=.returned (.tuple #[.string a,.string pg,.bool false])/\Below W.heap.size W w'):
  Calls prog 12 #[.pointer (some ⟨tb,0,none⟩),.string s] w (oZ tb (kU m (.no 1)) w):=by
 have hmf:∀(fn:Fn) (first cap:Array Value) (w:World),(Instr.makeFunc fn first cap).run prog w=.ok (.func fn first cap) w:= λ_ _ _ _=>rfl
 have HB1:=zh (ac w (.cells #[.string {data:=#[]}] 9))
 have HO:=zh (StrB.new w {data:=#[]})
 have hl:=h.ty.ty.lt
 have HT:=zh (λW (hb:Below w.heap.size w W)=>h.next hb)
 have HC:=zh KC
 have HC2:=zh KC2
 have KM:=zh (λW=>jZ 1 W (by decide))
 clear h KC KC2
 go_enter_defers func12,ntmps12
 go_wp2_with fail
 generalize w.alloc (.cells #[.string {data:=#[]}] 9)=W1 at*
 refine(HC.o _ HB1.o).mono ?_
 rintro e w2 ⟨rfl,hb2⟩
 have HB2:=zh (aa HB1.o hb2)
 have HO2:=zh (HO.o.next hb2)
 clear hb2 HB1 HO HC
 go_wp2_with fail
 refine(HC2.o _ HB2.o).mono ?_
 rintro e w3 ⟨rfl,hb3⟩
 go_wp2_with fail
 refine(KM.o _).mono ?_
 rintro e w4 ⟨rfl,rfl⟩
 exact dD rfl (by decide) (by decide) (HT.o _ (aa HB2.o hb3)) (HO2.o.next hb3) (aY (aa HB2.o hb3)) hl rfl
theorem BM (o r:ByteArray) (KC:∀W,Below w.heap.size w W->Calls prog 27 #[.string s,.string {data:=#[32]}] W λe w'=>e=.returned (.tuple #[.string o,.string r,.bool false])/\Below W.heap.size W w'):
  Calls prog 12 #[.pointer (some ⟨tb,0,none⟩),.string s] w (oZ tb (kU m (iR m (toL s))) w):=by
 have hmf:∀(fn:Fn) (first cap:Array Value) (w:World),(Instr.makeFunc fn first cap).run prog w=.ok (.func fn first cap) w:= λ_ _ _ _=>rfl
 have HB1:=zh (ac w (.cells #[.string {data:=#[]}] 9))
 have HO:=zh (StrB.new w {data:=#[]})
 have hl:=h.ty.ty.lt
 have HA:=zh (λW (hb:Below w.heap.size w W)=>yZ (h.next hb) hm s (hG.below hb (by omega)) hB)
 have HE:=zh (oe hm (toL s))
 have HC:=zh KC
 clear h hm hG KC
 generalize iR m (toL s)=an at*
 go_enter_defers func12,ntmps12
 go_wp2_with fail
 generalize w.alloc (.cells #[.string {data:=#[]}] 9)=W1 at*
 refine(HC.o _ HB1.o).mono ?_
 rintro e w2 ⟨rfl,hb2⟩
 have HB2:=zh (aa HB1.o hb2)
 have HO2:=zh (HO.o.next hb2)
 clear hb2 HB1 HO HC
 have K:=HA.o w2 HB2.o
 go_wp2_with fail
 refine K.mono ?_
 rintro e w4 hL
 cases an with
 |no er=>
  obtain⟨rfl,hT,hg⟩:=hL
  have:=HE.o
  exact dD rfl (by have:=this.1;omega) this.2 hT (HO2.o.kept hg (λe=>by injection e;omega)) ((aY HB2.o).trans hg) hl rfl
 |yes z t=>
  obtain⟨rfl,hT,hg⟩:=hL
  have h4:=HO2.o.kept hg (λe=>by injection e;omega)
  have c4:=h4.cell
  have f4:=h4.froz
  have HF:=zh (And.intro (hT.kept (ai w4 w.heap.size 0 (.string (ofL t))) h4.ty (by decide) (by decide) (by decide) (by omega)) (And.intro (h4.set (ofL t)) (cD ((aY HB2.o).trans hg) (Nat.le_refl _) 0 (.string (ofL t)))))
  clear hT hg h4 HE K HA
  go_wp2_with fail
  exact lQ rfl HF.o.1 HF.o.2.1 HF.o.2.2 rfl
theorem BN (hs:s.size<=100000):Calls prog 12 #[.pointer (some ⟨tb,0,none⟩),.string s] w (oZ tb (eY m (toL s)) w):=by
 have hl:=h.ty.ty.lt
 rw[qf]
 have KC:= λW (hb:Below w.heap.size w W)=>tU (hG.below hb (by omega)) s hs
 have h2:=lR (toL s)
 rw[bv]at h2
 unfold jE
 split
 ·rename_i hc
  rw[hc]at KC
  have KD:= λ(x:List UInt8) (ho:(aR (toL s)).1=x) W (hb:Below w.heap.size w W)=>(show Calls prog 27 #[.string s,.string {data:=#[32]}] W λe w'=>e=.returned (.tuple #[.string (ofL x),.string (ofL (aR (toL s)).2.1),.bool true])/\Below W.heap.size W w' from by rw[<-ho];exact KC W hb)
  have hr:(ofL (aR (toL s)).2.1).size<=100000:=by rw[aT];omega
  unfold mz
  rw[show(aR (toL s)).2.1=toL (ofL (aR (toL s)).2.1)from(aZ _).symm]
  generalize ofL (aR (toL s)).2.1=r at*
  rw[cW]
  split
  ·rename_i ho;exact wo h hm hG hB s r _ hr _ _ (KD _ ho) (.inl ⟨rfl,rfl,rfl⟩)
  split
  ·rename_i ho;exact wo h hm hG hB s r _ hr _ _ (KD _ ho) (.inr (.inl ⟨rfl,rfl,rfl⟩))
  split
  ·rename_i ho;exact wo h hm hG hB s r _ hr _ _ (KD _ ho) (.inr (.inr ⟨rfl,rfl,rfl⟩))
  split
  ·rename_i ho;exact ow h hm s r _ hr _ _ (KD _ ho) (.inl ⟨rfl,rfl,rfl⟩)
  split
  ·rename_i ho;exact ow h hm s r _ hr _ _ (KD _ ho) (.inr (.inl ⟨rfl,rfl,rfl⟩))
  split
  ·rename_i ho;exact ow h hm s r _ hr _ _ (KD _ ho) (.inr (.inr ⟨rfl,rfl,rfl⟩))
  split
  ·rename_i ho;exact CS h hm hG hB s r hr (KD _ ho)
  split
  ·rename_i ho
   have KC2:= λW (hb:Below w.heap.size w W)=>tU (hG.below hb (by omega)) r hr
   have h3:=lR (toL r)
   rw[bv]at h3
   split
   ·rename_i hc2
    rw[hc2]at KC2
    have hN:(aR (toL r)).1=toL (ofL (aR (toL r)).1):=(aZ _).symm
    rw[hN]
    exact BK h hm hG hB s r _ _ (by rw[aT];omega) (KD _ ho) KC2
   ·rename_i hc2
    have hc2:(aR (toL r)).2.2=false:=by simpa using hc2
    rw[hc2]at KC2
    exact Dt h s r _ _ (KD _ ho) KC2
  ·rename_i h0 h1 h2 h3 h4 h5 h6 h7
   rw[<-aZ (aR (toL s)).1]at h0 h1 h2 h3 h4 h5 h6 h7
   exact BL h s _ r h0 h1 h2 h3 h4 h5 h6 h7 (KD _ rfl)
 ·rename_i hc
  have hc:(aR (toL s)).2.2=false:=by simpa using hc
  rw[hc]at KC
  exact BM h hm hG hB s _ _ KC
end
end
end Go.Proofs.YtdbneghfbkjinaaGreatDoor
