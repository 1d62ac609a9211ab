/- Texts of the proof of deskPlays_holds: DPlayR, DLaw, RowA, DeskPlaysProof. Conditions: as each text says. -/
import Derived.Test.YtdbneghfbkjinaaGreatDoorDA1
import Derived.Test.YtdbneghfbkjinaaGreatDoorDA50
import Derived.Test.YtdbneghfbkjinaaGreatDoorDA44
import Derived.Test.YtdbneghfbkjinaaGreatDoorCards
import Derived.Test.YtdbneghfbkjinaaGreatDoorTie
import Derived.Deep.DeepWitnessRowRef
import Derived.Stop.LaidErr
set_option maxRecDepth 100000
set_option maxHeartbeats 1000000
namespace Go.Proofs.YtdbneghfbkjinaaGreatDoor
section
open Go.Proofs.Tryz
open Go.RowKit Sl
theorem wS {l:List UInt8} {k:Nat} {b:UInt8} (h:l[k]? =some b):(l.take (k+1)).count 10=(l.take k).count 10+if b=10 then 1 else 0:=by
 rw[List.take_add_one,h,List.count_append]
 by_cases hb:b=10<;>simp[hb]
theorem count_le (l:List UInt8) (k:Nat):(l.take k).count 10<=l.count 10:=(List.take_sublist k l).count_le 10
theorem B0 {l:List UInt8} {k f:Nat} {b:UInt8} (h:l[k]? =some b) (hf:f<=k):(l.take (k+1)).drop f=(l.take k).drop f++[b]:=by
 have hl:=(zl h)
 rw[List.take_add_one,h,Option.toList_some,List.drop_append_of_le_length (by rw[List.length_take];omega)]
theorem DW (s:ByteArray) (f k:Nat):s.extract f k=ofL (((toL s).take k).drop f):=nJ (by
 rw[aZ]
 show toL _=_
 unfold toL
 rw[Lib.extract_data]
 simp[List.drop_take])
theorem rF {s:ByteArray} {k:Nat} (h:k<s.size):(toL s)[k]? =some (s[k]'h):=by unfold toL;rw[Array.getElem?_toList];exact Array.getElem?_eq_getElem h
theorem xF {b:UInt8} (h:((b.toNat:Int)==10)=false):b≠10:= λe=>by rw[e]at h;exact absurd h (by decide)
theorem wT {b:UInt8} (h:((b.toNat:Int)==10)=true):b=10:=UInt8.toNat_inj.1 (by
 have:(b.toNat:Int)=10:=by simpa using h
 show b.toNat=10
 omega)
structure RlS (tb:Nat) (w:World) (total l:List UInt8) (k f:Nat) (t:ByteArray) (W:World):Prop where
 img:∃base tg v q p m,OwnI W base tg v q p m/\ab m=0/\Box W tb m.guest v/\ ∃out,t=ofL out/\out++dO (l.drop k) m ((l.take k).drop f)=total/\out.length<=201*k
 box:BoxB W tb
 le:f<=k
 kl:k<=l.length
 lt:w.heap.size<=tb
 below:Below w.heap.size w W
section
variable {tb:Nat} {w W W':World} {total l:List UInt8} {k f:Nat} {t:ByteArray} {b:UInt8}
theorem RlS.pass (h:RlS tb w total l k f t W) (hb:l[k]? =some b) (hn:b≠10):RlS tb w total l (k+1) f t W:=by
 obtain⟨base,tg,v,q,p,m,ho,hm,hx,out,ht,hp,hl⟩:=h.img
 have hk:=(zl hb)
 refine⟨⟨base,tg,v,q,p,m,ho,hm,hx,out,ht,?_,by omega⟩,h.box,by have:=h.le;omega,by omega,h.lt,h.below⟩
 rw[B0 hb h.le,<-hp,List.drop_eq_getElem_cons hk]
 have e:l[k]=b:=by rw[List.getElem?_eq_getElem hk]at hb;injection hb
 rw[e]
 simp only[dO,if_neg hn]
theorem Ca (h:l[k]? =some 10) (m:Img) (cur:List UInt8):dO (l.drop k) m cur=(eY m cur).2++10::dO (l.drop (k+1)) (eY m cur).1 []:=by
 have hk:=(zl h)
 have e:l[k]=10:=by rw[List.getElem?_eq_getElem hk]at h;injection h
 rw[List.drop_eq_getElem_cons hk,e]
 simp only[dO,if_pos]
theorem oF (h:4096<l.length\/60<l.count 10):dU l=2/\i7 l=[]:=by
 have e:dU l=2:=by unfold dU;rw[if_pos h]
 exact⟨e,by unfold i7;rw[e,if_neg (by decide)]⟩
theorem Cb (h:¬(4096<l.length\/60<l.count 10)) (h2:¬(l=[]\/l.getLast? =some 10)):dU l=1/\i7 l=[]:=by
 have e:dU l=1:=by unfold dU;rw[if_neg h,if_neg h2]
 exact⟨e,by unfold i7;rw[e,if_neg (by decide)]⟩
theorem zM (h:¬(4096<l.length\/60<l.count 10)) (h2:l=[]\/l.getLast? =some 10):dU l=0/\i7 l=dO l (aG 0) []:=by
 have e:dU l=0:=by unfold dU;rw[if_neg h,if_pos h2]
 exact⟨e,by unfold i7;rw[e,if_pos rfl]⟩
theorem Cc {m:Img} {out:List UInt8} {v':IV} {st:Img×List UInt8} (hk:l[k]? =some 10) (hp:out++dO (l.drop k) m ((l.take k).drop f)=total) (hl:out.length<=201*k) (hst:eY m ((l.take k).drop f)=st)
  (hg:ab st.1=0/\st.2.length<=200) (hbx:BoxB W tb) (hx:∃g v,Box W tb g v) (hF:Fresh W 0 v' st.1) (hlt:w.heap.size<=tb) (hB:Below w.heap.size w W):
  RlS tb w total l (k+1) (k+1) (ofL out++ofL st.2++{data:=#[10]}) (((((W.setCell ⟨tb,0,none⟩ (.int .i64 st.1.guest)).setCell ⟨tb,1,none⟩ (.slice v'.rA v'.rn v'.rc)).setCell ⟨tb,2,none⟩ (.slice v'.sA v'.sn v'.sc)).setCell ⟨tb,3,none⟩ (.slice v'.fA v'.fn v'.fc)).setCell ⟨tb,4,none⟩ (.slice v'.pA v'.pn v'.pc)):=by
 have h5:=dr hbx hx st.1.guest v'
 obtain⟨base,tg,q,p,ho⟩:=(hF.kept h5.2.2 hbx.ty (by decide) (by decide) (by decide)).own hg.1
 have hkl:=(zl hk)
 refine⟨⟨base,tg,v',q,p,st.1,ho,hg.1,h5.1,out++st.2++[10],by rw[show({data:=#[10]}:ByteArray)=ofL [10]from rfl,ee,ee],?_,?_⟩,h5.2.1,Nat.le_refl _,by omega,hlt,hB.grown h5.2.2 hB.size (λj e=>by injection e;omega)⟩
 ·rw[Ca hk,hst]at hp
  rw[<-hp,show(l.take (k+1)).drop (k+1)=[]from List.drop_of_length_le (by rw[List.length_take];omega)]
  simp
 ·simp only[List.length_append,List.length_cons,List.length_nil]
  omega
end
theorem xG {s:ByteArray} (h:0<s.size):(toL s).getLast? =some (s[s.size-1]'(by omega)):=by rw[List.getLast?_eq_getElem?,bv];exact rF _
theorem Cd (s:ByteArray):(toL s=[]/\s.size=0)\/0<s.size:=by
 have:=bv s
 cases h:toL s with
 |nil=>rw[h]at this;exact .inl ⟨rfl,this.symm⟩
 |cons _ _=>rw[h]at this;exact .inr (by simp at this;omega)
theorem Ce {s:ByteArray} (h:¬(toL s=[]\/(toL s).getLast? =some 10)):∃h:0<s.size,(((s[s.size-1]'(by omega)).toNat:Int) !=10)=true:=by
 rcases Cd s with⟨h0,_⟩|hn
 ·exact absurd (.inl h0) h
 ·refine⟨hn,?_⟩
  cases hB:(((s[s.size-1]'(by omega)).toNat:Int)==10)
  ·unfold bne;rw[hB];rfl
  ·exact absurd (.inr ((xG hn).trans (congrArg some (wT hB)))) h
theorem zN {s:ByteArray} (h:toL s=[]\/(toL s).getLast? =some 10):(s.size:Int)<=0\/ ∃h:0<s.size,(((s[s.size-1]'(by omega)).toNat:Int) !=10)=false:=by
 rcases Cd s with⟨_,h0⟩|hn
 ·exact .inl (by omega)
 ·refine .inr ⟨hn,?_⟩
  rcases h with h|h
  ·have:=bv s;rw[h]at this;simp at this;omega
  ·rw[xG hn]at h
   injection h with h
   rw[h];rfl
section
variable (s:ByteArray) (w:World)
theorem wU (hs:s.size<=4611686018427387903):Calls prog 5 #[.string s] w λe w'=>e=.returned (.tuple #[.string (ofL (i7 (toL s))),.int .i64 (dU (toL s))])/\Below w.heap.size w w':=by
 have hl:=bv s
 go_enter func5,ntmps5
 go_wp2_with fail
 go_loopw [4,5] (λc i wr=>∃k:Nat,k<=s.size/\i=.int .i64 k/\c=.int .i64 (((toL s).take k).count 10:Nat)/\wr=w) (λ_ i _=>s.size-(intOf i).toNat)
 case atStart=>exact⟨0,Nat.zero_le _,rfl,rfl,rfl⟩
 case round=>
  obtain⟨k,hk,rfl,rfl,rfl⟩:=hrel
  have e0:(0:Int)<=(k:Int):=by omega
  by_cases hlt:k<s.size
  ·have e1:(k:Int)<(s.size:Int):=by omega
   by_cases hc:((toL s).take k).count 10<=60
   ·have e2:((((toL s).take k).count 10:Nat):Int)<=60:=by omega
    have hx:=rF hlt
    have hst:=wS hx
    cases hB:(((s[k]'hlt).toNat:Int)==10)
    ·have HS:=zh (show((toL s).take (k+1)).count 10=((toL s).take k).count 10 from by rw[hst,if_neg (xF hB)];rfl)
     clear hst hx
     go_wp2_with fail
     go_roundw
     case rel=>exact⟨k+1,by omega,by go_num,by rw[HS.o],trivial⟩
     case measure=>simp[intOf];omega
    ·have HS:=zh (show((toL s).take (k+1)).count 10=((toL s).take k).count 10+1 from by rw[hst,if_pos (wT hB)])
     clear hst hx
     go_wp2_with fail
     go_roundw
     case rel=>exact⟨k+1,by omega,by go_num,by rw[HS.o];go_num,trivial⟩
     case measure=>simp[intOf];omega
   ·have HP:=zh (oF (l:=toL s) (.inr (by have:=count_le (toL s) k;omega)))
    have e2:60<((((toL s).take k).count 10:Nat):Int):=by omega
    by_cases h4:4096<s.size
    ·have e3:(4096:Int)<(s.size:Int):=by omega
     go_wp2_with fail
     go_ret2
     exact⟨by rw[HP.o.1,HP.o.2];rfl,Below.refl _ _⟩
    ·have e3:(s.size:Int)<=4096:=by omega
     go_wp2_with fail
     go_ret2
     exact⟨by rw[HP.o.1,HP.o.2];rfl,Below.refl _ _⟩
  ·obtain rfl:k=s.size:=by omega
   rw[show(toL s).take s.size=toL s from List.take_of_length_le (by omega)]
   by_cases h4:4096<s.size
   ·have HP:=zh (oF (l:=toL s) (.inl (by omega)))
    have e3:(4096:Int)<(s.size:Int):=by omega
    go_wp2_with fail
    go_ret2
    exact⟨by rw[HP.o.1,HP.o.2];rfl,Below.refl _ _⟩
   have e3:(s.size:Int)<=4096:=by omega
   by_cases hc:60<(toL s).count 10
   ·have HP:=zh (oF (l:=toL s) (.inr hc))
    have e2:60<(((toL s).count 10:Nat):Int):=by omega
    go_wp2_with fail
    go_ret2
    exact⟨by rw[HP.o.1,HP.o.2];rfl,Below.refl _ _⟩
   have e2:(((toL s).count 10:Nat):Int)<=60:=by omega
   have hno:¬(4096<(toL s).length\/60<(toL s).count 10):=by omega
   by_cases hform:toL s=[]\/(toL s).getLast? =some 10
   case neg=>
    have HP:=zh (Cb hno hform)
    obtain⟨hn,hB⟩:=Ce hform
    have e5:(0:Int)<(s.size:Int):=by omega
    have e6:(0:Int)<=(s.size:Int)-1:=by omega
    have e7:(s.size:Int)-1<(s.size:Int):=by omega
    clear hform hno
    go_wp2_with fail
    go_ret2
    exact⟨by rw[HP.o.1,HP.o.2];rfl,Below.refl _ _⟩
   obtain⟨V,hV⟩:∃V,V=dO (toL s) (aG 0) []:=⟨_,rfl⟩
   have HP0:=zM hno hform
   rw[<-hV]at HP0
   have HP:=zh HP0
   have HV:=zh hV
   have hcase:=zN hform
   have KF:=zh (λW=>wu 0 W (by decide) (by decide))
   clear hform hno hV HP0
   rcases hcase with e5|⟨hn,hB⟩
   case' inl=>go_wp2_with fail
   case' inr=>
    have e5:(0:Int)<(s.size:Int):=by omega
    have e6:(0:Int)<=(s.size:Int)-1:=by omega
    have e7:(s.size:Int)-1<(s.size:Int):=by omega
    go_wp2_with fail
   all_goals
    refine(KF.o _).mono ?_
    rintro e w2 ⟨⟨rA,rn,rc,sA,sn,sc,fA,fn,fc,pA,pn,pc⟩,rfl,hF,hb2⟩
    obtain⟨base,tg,q,p,ho⟩:=hF.own iQ
    have B3:=ac w2 (.cells #[.int .i64 (aG 0).guest,.slice rA rn rc,.slice sA sn sc,.slice fA fn fc,.slice pA pn pc] 34)
    have hS0:RlS w2.heap.size wr V (toL s) 0 0 (ofL []) (w2.alloc (.cells #[.int .i64 (aG 0).guest,.slice rA rn rc,.slice sA sn sc,.slice fA fn fc,.slice pA pn pc] 34)):=
     ⟨⟨base,tg,_,q,p,aG 0,ho.next B3,iQ,Box.new w2 _ ⟨rA,rn,rc,sA,sn,sc,fA,fn,fc,pA,pn,pc⟩ _,[],rfl,HV.o.symm,by simp⟩,BoxB.new _ _,Nat.le_refl _,Nat.zero_le _,hb2.size,aa hb2 B3⟩
    have HS0:=zh hS0
    clear ho hF B3 hS0 KF hb2
    dsimp only[ae]
    go_upto_region 12 with fail
    generalize w2.alloc (.cells #[.int .i64 (aG 0).guest,.slice rA rn rc,.slice sA sn sc,.slice fA fn fc,.slice pA pn pc] 34)=w3 at*
    generalize w2.heap.size=tb at*
    go_wp2_with fail
    go_loopw [7,8,9] (λo f i wx=>∃(k fr:Nat) (t:ByteArray),i=.int .i64 k/\f=.int .i64 fr/\o=.string t/\RlS tb wr V (toL s) k fr t wx) (λ_ _ i _=>s.size-(intOf i).toNat)
    case atStart=>exact⟨0,0,_,rfl,rfl,rfl,HS0.o⟩
    case round=>
     obtain⟨k,fr,t,rfl,rfl,rfl,hR⟩:=hrel
     rename World=>wx
     have hkl:=hR.kl
     clear HS0
     by_cases hlt:k<s.size
     ·have e0:(0:Int)<=(k:Int):=by omega
      have e1:(k:Int)<(s.size:Int):=by omega
      have hx:=rF hlt
      cases hB2:(((s[k]'hlt).toNat:Int)==10)
      ·have HR:=zh (hR.pass hx (xF hB2))
       clear hR hx
       go_wp2_with fail
       go_roundw
       case rel=>exact⟨k+1,fr,t,by go_num,rfl,rfl,HR.o⟩
       case measure=>simp[intOf];omega
      ·rw[wT hB2]at hx
       obtain⟨base,tg,v,q,p,m,ho,hm,hbx,out,rfl,hp,hol⟩:=hR.img
       have hfr:=hR.le
       have KG:=zL (ho.next (Below.refl _ _).drew) hm (s.extract fr k) (by rw[DW,aT,List.length_drop,List.length_take];omega)
       rw[show toL (s.extract fr k)=((toL s).take k).drop fr from by rw[DW,aZ]]at KG
       have hg:=qa hm (((toL s).take k).drop fr)
       generalize hst:eY m (((toL s).take k).drop fr)=st at*
       have HN:=zh (λW1 (v':IV) (hF:Fresh W1 0 v' st.1) (hb:Below wx.heap.size wx W1)=>Cc hx hp hol hst hg (hR.box.next hb) ⟨_,_,hbx.keep hb hR.box.ty.lt⟩ hF hR.lt (aa hR.below hb))
       have HBX:=zh (λW1 (hb:Below wx.heap.size wx W1)=>And.intro (hR.box.next hb) (hbx.keep hb hR.box.ty.lt))
       have n1:¬9223372036854775807<(ofL out).size+(ofL st.2).size:=by rw[aT,aT];omega
       have n2:¬9223372036854775807<(ofL out).size+(ofL st.2).size+1:=by rw[aT,aT];omega
       have e8:(0:Int)<=(fr:Int):=by omega
       have e9:(fr:Int)<=(k:Int):=by omega
       have e10:(k:Int)<=(s.size:Int):=by omega
       obtain⟨rA,rn,rc,sA,sn,sc,fA,fn,fc,pA,pn,pc⟩:=v
       dsimp only[ae]at KG HBX
       have KG:=zh KG
       clear hg hst hp hol ho hbx hR hx hm
       generalize ofL out=bo at*
       go_upto_region 19 with fail
       refine eS (λW'=>Box W' tb m.guest ⟨rA,rn,rc,sA,sn,sc,fA,fn,fc,pA,pn,pc⟩) 8 ?_
       have b0:=(Below.refl wx.heap.size wx).drew
       have hSS:=(HBX.o _ b0).2
       refine zgo 0 ?_
       refine zgo 1 ?_
       refine zgo 2 ?_
       refine zgo 3 ?_
       refine zgo 4 ?_
       clear hSS
       refine aP 5 λK' hK=>?_;go_simp
       refine KG.o.mono ?_
       rintro e v1 ⟨⟨qA,qn,qc,tA,tn,tc,uA,un,uc,oA,on,oc⟩,rfl,hF,c1⟩
       have b1:=aa b0 c1
       obtain⟨bx,hSS⟩:=HBX.o _ b1
       refine hK.nx ?_
       clear hK b0 c1
       dsimp only[ae]
       refine zgo 6 ?_
       have hNX:=zh (HN.o _ _ hF b1)
       obtain⟨y0,y1,y2,y3,y4⟩:=hSS
       have q0:=bx.fz 0
       have q1:=bx.fz 1
       have q2:=bx.fz 2
       have q3:=bx.fz 3
       have q4:=bx.fz 4
       have hSS:Box v1 tb m.guest ⟨rA,rn,rc,sA,sn,sc,fA,fn,fc,pA,pn,pc⟩:=⟨y0,y1,y2,y3,y4⟩
       dsimp only at y0 y1 y2 y3 y4 hNX
       clear hF b1 bx HBX KG HN
       refine zr [7,8] (zc 7 (λK' hK=>?_) (zc 8 (λK' hK=>?_) EachZ.nil))
       case' refine_1=>
        go_simp
        refine hK.nx ?_;clear hK
        refine zr [8,9] (zc 8 (λK' hK=>?_) (zc 9 (λK' hK=>?_) EachZ.nil))
        case' refine_1=>
         go_simp
         refine hK.nx ?_;clear hK
         refine aP 9 λK' hK=>?_;go_simp
         refine hK.nx ?_;clear hK
        case' refine_2=>
         go_simp
         refine hK.nx ?_;clear hK
         refine aP 8 λK' hK=>?_;go_simp
         refine hK.nx ?_;clear hK
       case' refine_2=>
        go_simp
        refine hK.nx ?_;clear hK
        refine aP 7 λK' hK=>?_;go_simp
        refine hK.nx ?_;clear hK
        refine aP 9 λK' hK=>?_;go_simp
        refine hK.nx ?_;clear hK
       all_goals
        refine aP 10 λK' hK=>?_;go_simp
        refine hK.nx ?_;clear hK
        clear hSS y0 y1 y2 y3 y4
        refine cT ?_
        go_wp2_with fail
        go_roundw
        case rel=>exact⟨k+1,k+1,_,by go_num,by go_num,rfl,hNX.o⟩
        case measure=>simp[intOf];omega
     ·obtain rfl:k=s.size:=by omega
      obtain⟨base,tg,v,q,p,m,_,_,_,out,rfl,hp,_⟩:=hR.img
      rw[List.drop_of_length_le (by omega)]at hp
      have ho:out=V:=by rw[<-hp];simp[dO]
      subst ho
      have HB:=zh hR.below
      clear hp hR
      go_wp2_with fail
      go_ret2
      exact⟨by rw[HP.o.1,HP.o.2];rfl,HB.o⟩
end
end
section
open Go.Proofs.Tryz
open Go.RowKit Sl
theorem DC (l:List UInt8):((ofL l).toList==l)=true:=beq_iff_eq.2 (by rw[ByteArray.toList_eq];exact aZ l)
theorem zO (B:Nat) (w:World) (hG:Glob B w) (hB:B<=w.heap.size):Calls prog 6 #[] w λe w'=>e=.returned (.bool true)/\Below w.heap.size w w':=by
 have KP:=zh (λs (h:toL s=CU)=>(show Calls prog 4 #[.string s] w λe w'=>e=.returned (.tuple #[.string (ofL CV),.int .i64 0])/\Below w.heap.size w w' from by
  have:=ug s w B hG hB
  rwa [h,Dg,show i7 CU=CV from by unfold i7;rw[Dg,if_pos rfl,DT]]at this))
 clear hG
 go_enter func6,ntmps6
 go_wp2_with fail
 refine(KP.o _ rfl).mono ?_
 rintro e w2 ⟨rfl,hb⟩
 go_wp2_with fail
 go_ret
 exact⟨congrArg (λb=>Ending.returned (.bool b)) (DC CV),hb⟩
theorem pd (s:ByteArray) (B:Nat) (w:World) (hG:Glob B w) (hB:B<=w.heap.size) (hs:s.size<=4611686018427387903):Calls prog 3 #[.string s] w λe w'=>e=.returned (.bool true)/\Below w.heap.size w w':=by
 have KP:=zh (ug s w B hG hB)
 have KR:=zh (λW=>wU s W hs)
 have KB:=zh (λW (hb:Below w.heap.size w W)=>zO B W (hG.below hb hB) (Nat.le_trans hB hb.size))
 clear hG
 generalize ofL (i7 (toL s))=t at*
 generalize dU (toL s)=er at*
 go_enter func3,ntmps3
 go_wp2_with fail
 refine KP.o.mono ?_
 rintro e w2 ⟨rfl,h2⟩
 go_wp2_with fail
 refine(KR.o _).mono ?_
 rintro e w3 ⟨rfl,h3⟩
 have h3:=aa h2 h3
 go_wp2_with fail
 refine(KB.o _ h3).mono ?_
 rintro e w4 ⟨rfl,h4⟩
 have h4:=aa h3 h4
 go_wp2_with fail
 go_ret
 exact⟨rfl,h4⟩
end
section
open Go.Proofs.Tryz
open Go.RowKit Go.ChangeShapes Go.WideShapes Go.Deep Sl
theorem C5 {w:World} {a:Addr} {v:Value} (h:w.cell? a=some v):a.block<w.heap.size/\a.spot=none:=by
 unfold World.cell? at h
 split at h
 ·rename_i hh
  refine⟨(za hh),?_⟩
  cases hs:a.spot with
  |none=>rfl
  |some _=>rw[hs]at h;simp at h
 ·cases h
section
variable {H:Type} {enc:TypeId×Value->H} {P:Program} {w:World} {base:Nat} {spare:Nat->Bool} {held:Bool}
end
end
section
open Go.Proofs.Tryz
open Go.ChangeShapes Go.WideShapes Go.ChangeAt Go.RowKit Sl
theorem Tryz.own:ownKnob prog.godebug=none:=by kernel_rfl
theorem Tryz.laidOut:laidOutB prog=true:=by kernel_rfl
section
variable {H:Type} {enc:TypeId×Value->H}
theorem kx {W W':World} (hb:Below W.heap.size W W'):∀(ts:List TypeId) (vs:List Value) (ds:List (DataW H)) (ps:List MemPlace),DataW.TrodAll enc prog W 0 (λ_=>true) true ts vs ds ps->
  (∀t∈ts,prog.readableRec t=true/\t<prog.types.size)->(∀p∈ps,p.block<W.heap.size)->DataW.TrodAll enc prog W' 0 (λb=>decide (b<W.heap.size)) true ts vs ds ps
 |[],vs,ds,ps,h,_,_=>by
  obtain⟨rfl,rfl,rfl⟩:=trodAll_nil h
  exact trodAll_mk0
 |t::ts,vs,ds,ps,h,hr,hl=>by
  obtain⟨v,vs',d,ds',p,q,rfl,rfl,rfl,h1,h2⟩:=trodAll_cons h
  exact⟨p,q,(Below.trod Tryz.laidOut (hr t (by simp)).1 (hr t (by simp)).2 h1 hb (λx hx=>hl x (List.mem_append_left _ hx))),
   (kx hb ts vs' ds' q h2 (λt ht=>hr t (by simp[ht])) (λx hx=>hl x (List.mem_append_right _ hx))),rfl⟩
theorem Cf {f:Func} {s:ChangeSpec} {W W':World} {args:Array Value} {ds:List (DataW H)} {before:List MemPlace} (hs:s.vars=[]) (hres:f.resultTypes=#[4])
  (hread:∀t∈f.params.toList,prog.readableRec t=true/\t<prog.types.size)
  (hW:DataW.Whole enc prog f.params.toList [] false W args.toList ds [] before) (hfn:s.fn H (ds++[])={results:=[.lit (.bool true)],args:=ds}) (hb:Below W.heap.size W W'):
  s.post enc prog f false true false false W args (.bool true) W':=by
 have hW':=hW
 obtain⟨p,q,hA,hV,rfl,hz,hn⟩:=hW
 have hlt:=hW'.lt
 obtain⟨_,rfl⟩:=trodVars_none hV
 refine⟨ds,[],p++[],[],p,[],by rw[hs];exact hW',?_,?_,?_,hb.frame _,λh=>by cases h⟩
 ·rw[hfn,hres]
  exact trodAll_mk1 (shut_bool underlying4 true)
 ·rw[hfn]
  exact kx hb _ _ _ _ hA hread (λx hx=>hlt x (by simpa using hx))
 ·rw[hs,hfn]
  exact rfl
theorem zP {ts:List TypeId} {ds:List (DataW H)} (h:(DataW.weightsEach prog ts ds).all (· <=reachBytes)=true) {j:Nat} {t:TypeId} {d:DataW H} (ht:ts[j]? =some t) (hd:ds[j]? =some d):
  ∀n∈d.weights prog t,n<=reachBytes:= λn hn=>by
 have:=List.all_eq_true.1 h _ (DataW.weights_mem_each ht hd n hn)
 simpa using this
theorem C6 {args:Array Value} {l:List Value} (h:args.toList=l):args=l.toArray:=by rw[<-h]
end
end
section
open Go.Proofs.Tryz
open Go.ChangeShapes Go.WideShapes Go.ChangeAt Go.RowKit Sl
section
variable {H:Type} {enc:TypeId×Value->H} {W:World} {base:Nat} {v:Value} {d:DataW H} {p:List MemPlace}
theorem zQ (hv:Value.okWide prog W .any base 9 v) (h:DataW.Trod enc prog W 0 (λ_=>true) true 9 v d p) (hw:∀n∈d.weights prog 9,n<=reachBytes):∃s,v=.string s/\s.size<=140737488351232:=by
 obtain⟨s,rfl,rfl,_,_⟩:=ChangeMaps.open_string underlying9 hv h
 exact⟨s,rfl,hw s.size (by simp[DataW.weights])⟩
end
end
section
open Go.Proofs.Tryz
open Go.RowKit Go.ChangeShapes Go.WideShapes Go.Deep Sl
section
variable {H:Type} {enc:TypeId×Value->H} {P:Program} {w:World} {base:Nat} {spare:Nat->Bool} {held:Bool}
end
end
section
open Go.Proofs.Tryz
open Go.ChangeShapes Go.WideShapes Go.ChangeAt Go.RowKit Sl
section
variable {H:Type} {enc:TypeId×Value->H} {W:World} {base:Nat} {v:Value} {d:DataW H} {p:List MemPlace}
end
end
section
open Go.Proofs.Tryz
open Go.ChangeShapes Go.WideShapes Go.ChangeAt Go.RowKit Sl
theorem C7:(prog.globals[2]?).map (·.type)=some 46:=by kernel_rfl
theorem C8:(prog.globals[3]?).map (·.type)=some 46:=by kernel_rfl
theorem C9:(prog.globals[1]?).map (·.type)=some 192:=by kernel_rfl
theorem qv:prog.cellsOf 220=1:=by kernel_rfl
theorem qw:prog.cellsOf 9=1:=by kernel_rfl
theorem zR:prog.cellsOf 192=20:=by kernel_rfl
theorem zT:prog.cellsOf 167=1:=by kernel_rfl
theorem uu: "*" ++ "errors.errorString" = "*errors.errorString" :=by decide
theorem xH (u:TypeId) (h:prog.typeName? 3 u=some "*errors.errorString"):u=218:=
 typeName_ptr_named (nm:= "errors.errorString") (by rw[uu];kernel_rfl) (by kernel_rfl) (by decide) u (by rw[uu];exact h)
theorem Da {W:World} (h:laidMetH prog Rows.deskPlaysRow.laid W) (hs:W.ShapedOpen prog):Glob W.heap.size W:=by
 have hL:laidMet prog Rows.deskPlaysRow.laid W:=h
 unfold Rows.deskPlaysRow at hL
 have h3:=hL.tail.tail
 have h5:=h3.tail.tail
 obtain⟨a1,s1,r1,-⟩:=laid_sentinel h5 vm C8 underlying46 xH underlying218 underlying220 rfl rfl underlying9 qv qw
 obtain⟨a0,s0,r0,-⟩:=laid_sentinel h5.tail AK C7 underlying46 xH underlying218 underlying220 rfl rfl underlying9 qv qw
 have hz:=(C5 (show W.cell? ⟨3,0,none⟩=some _ from by have h0:=World.var?_cell vm r1 0;simpa using h0)).1
 exact⟨⟨_,_,r0⟩,⟨_,_,r1⟩,Lib.tabIs_of_head AL C9 underlying192 underlying167 zT zR h3,Tryz.laysM143.s1_3 W hs,hz⟩
def oG (l:List (DataW Unit)):List Value:=l.map λ | .lit (.int k z)=>.int k z|_=>.bool false
def ki:DataW Unit->List (DataW Unit)
 | .agg l=>l
 |_=>[]
def k8 (cs:List Value):Obj->Obj
 | .cells _ t fr=>.cells cs.toArray t fr
 |o=>o
noncomputable def low:Nat:=(World.holding prog default ⟨#[],#[],[]⟩).heap.size
noncomputable def DD (h:Array Obj):Array Obj:=
 (((((((h.modify 1 (k8 (oG (ki Rows.laid_internal_strconv_uint64pow10)))).modify 2 (k8 [.iface 218 (.pointer (some ⟨low,0,none⟩))])).modify 3 (k8 [.iface 218 (.pointer (some ⟨low+1,0,none⟩))])).modify 4
  (k8 (oG (ki Rows.laid_unicode_utf8_first)))).modify 5 (k8 ((ki Rows.laid_unicode_utf8_acceptRanges).flatMap λd=>oG (ki d)))).modify 6 (k8 (oG (ki Rows.laid_math_bits_deBruijn32tab)))).modify 7 (k8 (oG (ki Rows.laid_math_bits_deBruijn64tab))))
noncomputable def wV (os:Os):World:=
 let w0:=World.holding prog os ⟨#[.cells #[.string {data:=#[105,110,118,97,108,105,100,32,115,121,110,116,97,120]}] 220,.cells #[.string {data:=#[118,97,108,117,101,32,111,117,116,32,111,102,32,114,97,110,103,101]}] 220],#[],[]⟩
 {w0 with heap:=DD w0.heap}
theorem zU (os:Os):laidMet prog Rows.deskPlaysRow.laid ((wV os).forCall (λ_ _=>0) ⟨#[],#[.string ⟨#[]⟩],[]⟩).memory:=
 laidMet_of_run' 8 (by kernel_rfl) (by kernel_rfl)
theorem uv (os:Os) {H:Type} (enc:TypeId×Value->H):∃places,DataW.whole enc prog ((wV os).forCall (λ_ _=>0) ⟨#[],#[.string ⟨#[]⟩],[]⟩).memory Tryz.f3.params.toList Rows.deskPlaysSpec.vars false #[Value.string ⟨#[]⟩].toList 8=some ([.lit (.string [])],[],places):=
 ⟨[],by kernel_rfl⟩
theorem mE (os:Os) (started:os.Started) (H:Type) (enc:TypeId×Value->H) (F:Stop.Interp):
  ReturnsInHanded {} Tryz.checked os 3 .any ((OpenSpec.ofChange Rows.deskPlaysSpec).preRow enc prog Tryz.f3 Rows.deskPlaysRow.domain false Rows.deskPlaysRow.laid) (((OpenSpec.ofChange Rows.deskPlaysSpec).at F).post enc prog Tryz.f3 false true false false):=by
 obtain⟨places,hx⟩:=uv os enc
 refine returnsInHanded_of_row (C:=Tryz.checked) (s:=OpenSpec.ofChange Rows.deskPlaysSpec) Tryz.own started (by kernel_rfl) func3
  (witness_row_atRef (enc:=enc) (C:=Tryz.checked) false (wV os) #[.string ⟨#[]⟩] rfl (by kernel_rfl) (by kernel_rfl) (by kernel_rfl)
   (OpenSpec.preRow_of_cond 8 hx (by kernel_rfl) (λk hk=>by cases hk) (by kernel_rfl) (zU os))) ?_
 intro W base args ds gs before hval0 hW _ _ hsz0 hL hsh _
 have hsz:(DataW.weightsEach prog (Tryz.f3.params.toList++Rows.deskPlaysSpec.plain.varTypes prog) (ds++gs)).all (· <=reachBytes)=true:=hsz0
 have hW':=hW
 obtain⟨p,q,hA0,hV,rfl,hfz,hnd⟩:=hW
 have hA:DataW.TrodAll enc prog W 0 (λ_=>true) true Tryz.f3.params.toList args.toList ds p:=hA0
 have hval:∀(j:Nat) t v,Tryz.f3.params[j]? =some t->args[j]? =some v->Value.okWide prog W .any base t v:=hval0
 rw[params3]at hA hsz hval
 obtain⟨rfl,rfl⟩:=trodVars_none hV
 obtain⟨v0,vs0,d0,ds0,p0,q0,hargs,rfl,rfl,h0,r0⟩:=trodAll_cons hA
 obtain⟨rfl,rfl,rfl⟩:=trodAll_nil r0
 have hargs:=C6 hargs
 subst hargs
 obtain⟨s0,rfl,b0⟩:=zQ (hval 0 9 v0 rfl rfl) h0 (λn hn=>zP hsz (j:=0) rfl rfl n hn)
 clear hval hval0 hsz hsz0 hA0
 refine(pd s0 W.heap.size W (Da hL hsh) (Nat.le_refl _) (by omega)).mono λe W' ⟨he,hb⟩=>?_
 subst he
 exact⟨_,rfl,Cf rfl rfl (by rw[params3];exact of_decide_eq_true (by kernel_rfl)) hW' rfl hb⟩
theorem oH:Rows.DeskPlaysSaid:=
 OpenClaim.holds_of_cond 3 Tryz.f3 rfl rfl rfl rfl rfl rfl rfl ⟨rfl,rfl,rfl,rfl,rfl⟩ rfl rfl rfl rfl rfl (by kernel_rfl) func3 (by kernel_rfl)
  (of_decide_eq_true (by kernel_rfl)) (by unfold Func.isWrapper;rw[if_neg (of_decide_eq_false (by kernel_rfl))];exact⟨rfl,rfl⟩)
  (λos started H enc _ F=>by rw[OpenClaim.pre_eq_preRow];exact mE os started H enc F)
theorem plain (f:FuncId) (fn:Func) (hf:Tryz.pinned.checked.prog.funcNamed "slipsheet/slipsheetlaw.DeskPlays" =some f) (hfn:Tryz.pinned.checked.prog.funcs[f]? =some fn):
  true=Tryz.pinned.checked.prog.looks []/\ ∀(j:Nat) t,fn.params[j]? =some t->Tryz.pinned.checked.prog.wantsStandIn t=false:=by
 obtain rfl:f=3:=Option.some.inj ((show prog.funcNamed "slipsheet/slipsheetlaw.DeskPlays" =some 3 by kernel_rfl).symm.trans hf)|>.symm
 obtain rfl:fn=Tryz.f3:=(Option.some.inj (func3.symm.trans hfn)).symm
 refine⟨by kernel_rfl,λj t ht=>?_⟩
 rw[params3]at ht
 obtain rfl:t=9:=by simpa using Array.mem_of_getElem? ht
 exact(show prog.wantsStandIn 9=false by kernel_rfl)
theorem deskPlays_holds:Rows.DeskPlaysCardSaid:=
 Claim7.holds_tied_plain_at .later [] _ _ _ _ oH (λ_ h=>by cases h) (by kernel_rfl) (λ_ h=>by cases h) deskPlays_row_tie rfl ⟨rfl,rfl⟩ (by kernel_rfl) rfl plain (by kernel_rfl)
#print axioms deskPlays_holds
end
end Go.Proofs.YtdbneghfbkjinaaGreatDoor
