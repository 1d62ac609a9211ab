/- Texts of the proof of deskPlays_holds: DRef1, Name. Conditions: as each text says. -/
import Derived.Test.YtdbneghfbkjinaaGreatDoorDA1
import Derived.Test.YtdbneghfbkjinaaGreatDoorDA9
import Derived.Test.YtdbneghfbkjinaaGreatDoorDA2
set_option maxRecDepth 100000
set_option maxHeartbeats 1000000
namespace Go.Proofs.YtdbneghfbkjinaaGreatDoor
section
open Go.Proofs.Tryz
open Go.RowKit Sl
theorem ee (a b:List UInt8):ofL a++ofL b=ofL (a++b):=nJ (by simp[toL,ofL])
theorem eq (n:Nat):∀(w:World),n<1000000000->Calls prog 45 #[.int .i64 n] w λe w'=>e=.returned (.string (ofL (Lib.decDigits n)))/\Below w.heap.size w w':=by
 induction n using Nat.strongRecOn with
 |_ n ih=>
  intro w hn
  have hd:=ml (d:=n%10) (by omega)
  have hcv:(convert 39 9 (.slice (some ⟨w.heap.size,0,none⟩) 1 1)).run prog (w.alloc (.cells #[.int .u8 (48+(n:Int)%10)] 5))=.ok (.string (ofL [UInt8.ofNat (48+n%10)])) (w.alloc (.cells #[.int .u8 (48+(n:Int)%10)] 5)):=by
   refine run_convert_bytes_back _ 39 9 5 ⟨w.heap.size,0,none⟩ 1 [UInt8.ofNat (48+n%10)] underlying39 underlying5 underlying9 λj hj=>?_
   have hj0:j=0:=by simp at hj;omega
   subst hj0
   have:=cell_of_row _ _ 0 _ _ _ (heap_alloc_new w (.cells #[.int .u8 (48+(n:Int)%10)] 5))
   rw[show(⟨w.heap.size,0,none⟩:Addr).add 0=⟨w.heap.size,0,none⟩from rfl,this]
   simp only[List.getElem?_toArray,List.getElem?_cons_zero,List.getElem_cons_zero,hd]
   simp
  have B1:=ac w (.cells #[.int .u8 (48+(n:Int)%10)] 5)
  have e0:(0:Int)<=(n:Int):=by omega
  by_cases h10:n<10
  ·have R:=zh (show Lib.decDigits n=[UInt8.ofNat (48+n%10)]from by rw[jU h10,Nat.mod_eq_of_lt h10])
   have e1:(n:Int)<10:=by omega
   clear ih hd
   rw[R.o]
   generalize ofL [UInt8.ofNat (48+n%10)]=t at*
   go_enter func45,ntmps45
   go_wp2_with fail
   go_ret
   exact⟨rfl,B1⟩
  ·have R:=zh (qS h10)
   have K:=zh (ih (n/10) (by omega) (w.alloc (.cells #[.int .u8 (48+(n:Int)%10)] 5)) (by omega))
   have e1:(10:Int)<=(n:Int):=by omega
   have e2:((n/10:Nat):Int)=(n:Int)/10:=by omega
   rw[e2]at K
   have h9:(ofL (Lib.decDigits (n/10))).size<=9:=by rw[aT];exact cS (by omega)
   have h1:(ofL [UInt8.ofNat (48+n%10)]).size=1:=rfl
   rw[R.o,<-ee]
   clear ih hd R
   generalize ofL (Lib.decDigits (n/10))=u at*
   generalize ofL [UInt8.ofNat (48+n%10)]=t at*
   go_enter func45,ntmps45
   go_wp2_with fail
   refine K.o.mono ?_
   rintro e w2 ⟨rfl,hb⟩
   go_wp2_with fail
   go_ret
   exact⟨rfl,aa B1 hb⟩
theorem bQ (s:ByteArray) (w:World) (hs:s.size<=1000000):Calls prog 43 #[.string s] w λe w'=>
  e=.returned (.tuple #[.string (ofL (aR (toL s)).1),.string (ofL (aR (toL s)).2.1),.bool (aR (toL s)).2.2])/\Below w.heap.size w w':=by
 have hl:=bv s
 go_enter func43,ntmps43
 go_wp2_with fail
 go_loopw [5] (λi wr=>∃k:Nat,k<=s.size/\i=.int .i64 k/\(∀j b,j<k->(toL s)[j]? =some b->b≠32)/\wr=w) (λi _=>s.size-(intOf i).toNat)
 case atStart=>exact⟨0,Nat.zero_le _,rfl,λj _ h=>by omega,rfl⟩
 case round=>
  obtain⟨k,hk,rfl,hno,rfl⟩:=hrel
  by_cases hlt:k<s.size
  ·have hx:(toL s)[k]? =some (s[k]'hlt):=by unfold toL;rw[Array.getElem?_toList];exact Array.getElem?_eq_getElem hlt
   have e0:(0:Int)<=(k:Int):=by omega
   have e1:(k:Int)<(s.size:Int):=by omega
   cases hB:(((s[k]'hlt).toNat:Int)==32)
   ·have hno2:∀(j:Nat) b,j<k+1->(toL s)[j]? =some b->b≠32:= λj b hj hb=>by
     by_cases hjk:j<k
     ·exact hno j b hjk hb
     ·obtain rfl:j=k:=by omega
      rw[hx]at hb
      injection hb with hb
      subst hb
      intro hh
      rw[hh]at hB
      exact absurd hB (by decide)
    go_wp2_with fail
    go_roundw
    case rel=>exact⟨k+1,by omega,by go_num,hno2,trivial⟩
    case measure=>simp[intOf];omega
   ·have h32:(s[k]'hlt)=32:=UInt8.toNat_inj.1 (by have:((s[k]'hlt).toNat:Int)=32:=by simpa using hB
                                                  have e32:(32:UInt8).toNat=32:=rfl
                                                  omega)
    rw[h32]at hx
    have hw:=zh (xh hno hx)
    have E1:=zh (show s.extract 0 k=ofL ((toL s).take k)from by have:=uQ (toL s) k;rwa [cW]at this)
    have E2:=zh (show s.extract (k+1) s.size=ofL ((toL s).drop (k+1))from by have:=nN (toL s) (k+1);rwa [cW]at this)
    have e2:(k:Int)+1<=(s.size:Int):=by omega
    go_upto_region 5 with fail
    go_quiet (fail)
    go_wp2_with fail
    refine bodyPost_ret (v:=.tuple #[.string (s.extract 0 k),.string (s.extract (k+1) s.size),.bool true]) (by simp[results,results43,go_sem]) rfl ⟨?_,zb (Below.refl _ _) _⟩
    rw[hw.o,E1.o,E2.o]
  ·obtain rfl:k=s.size:=by omega
   have hw:=xg (l:=toL s) (λb hb=>by
    obtain⟨j,hj⟩:=List.getElem?_of_mem hb
    exact hno j b (by have:=(zl hj);omega) hj)
   have HW:=zh hw
   go_wp2_with fail
   refine bodyPost_ret (v:=.tuple #[.string s,.string {data:=#[]},.bool false]) (by simp[results,results43,go_sem]) rfl ⟨?_,Below.refl _ _⟩
   rw[HW.o]
   exact congrArg (λx=>Ending.returned (.tuple #[.string x,.string {data:=#[]},.bool false])) (cW s).symm
theorem gC (s:ByteArray) (w:World):Calls prog 50 #[.string s] w λe w'=>e=.returned (.int .i64 (gB (toL s)))/\Below w.heap.size w w':=by
 have hl:=bv s
 by_cases h6:1<=s.size/\s.size<=6
 case neg=>
  have R:=zh (At (l:=toL s) (by rw[hl];exact h6))
  have KW:=zh (λW=>aW (s.size:Int) 1 6 W)
  rw[show(decide ((1:Int)<=(s.size:Int))&&decide ((s.size:Int)<=6))=false from by simp only[Bool.and_eq_false_iff,decide_eq_false_iff_not];omega]at KW
  go_enter func50,ntmps50
  go_wp2_with (go_at_call 88;refine(KW.o _).mono ?_;rintro e w' ⟨rfl,rfl⟩)
  go_ret
  exact⟨congrArg (λx=>Ending.returned (.int .i64 x)) R.o.symm,Below.refl _ _⟩
 have KW:=zh (λW=>aW (s.size:Int) 1 6 W)
 rw[show(decide ((1:Int)<=(s.size:Int))&&decide ((s.size:Int)<=6))=true from by simp only[Bool.and_eq_true,decide_eq_true_eq];omega]at KW
 go_enter func50,ntmps50
 go_wp2_with (go_at_call 88;refine(KW.o _).mono ?_;rintro e w' ⟨rfl,rfl⟩)
 go_loopw [3,4] (λo i wr=>∃k:Nat,k<=s.size/\i=.int .i64 k/\o=.int .i64 (bi 0 ((toL s).take k):Nat)/\((toL s).take k).all fH=true/\wr=w) (λ_ i _=>s.size-(intOf i).toNat)
 case atStart=>exact⟨0,Nat.zero_le _,rfl,rfl,rfl,rfl⟩
 case round=>
  obtain⟨k,hk,rfl,rfl,hall,rfl⟩:=hrel
  clear KW
  have hv:=Cq hall (by rw[List.length_take];omega)
  by_cases hlt:k<s.size
  ·have hx:(toL s)[k]? =some (s[k]'hlt):=by unfold toL;rw[Array.getElem?_toList];exact Array.getElem?_eq_getElem hlt
   have e0:(0:Int)<=(k:Int):=by omega
   have e1:(k:Int)<(s.size:Int):=by omega
   have hT:(toL s).take (k+1)=(toL s).take k++[s[k]'hlt]:=by rw[List.take_add_one,hx];rfl
   cases hD:fH (s[k]'hlt)
   ·have R:=zh (Au hx hD)
    unfold fH at hD
    simp only[Bool.and_eq_false_iff,decide_eq_false_iff_not]at hD
    clear hT hall hx
    by_cases h48:(s[k]'hlt).toNat<48
    ·have f1:((s[k]'hlt).toNat:Int)<48:=by omega
     clear hD
     go_wp2_with fail
     go_ret
     exact⟨congrArg (λx=>Ending.returned (.int .i64 x)) R.o.symm,Below.refl _ _⟩
    ·have f1:(48:Int)<=((s[k]'hlt).toNat:Int):=by omega
     have f2:(57:Int)<((s[k]'hlt).toNat:Int):=by omega
     clear hD
     go_wp2_with fail
     go_ret
     exact⟨congrArg (λx=>Ending.returned (.int .i64 x)) R.o.symm,Below.refl _ _⟩
   ·have hval:=zh (show bi 0 ((toL s).take (k+1))=10*bi 0 ((toL s).take k)+((s[k]'hlt).toNat-48)from by rw[hT];exact Ax _ _)
    have hall2:=zh (show((toL s).take (k+1)).all fH=true from by rw[hT,List.all_append,hall,List.all_cons,hD];rfl)
    unfold fH at hD
    simp only[Bool.and_eq_true,decide_eq_true_eq]at hD
    have f1:(48:Int)<=((s[k]'hlt).toNat:Int):=by omega
    have f2:((s[k]'hlt).toNat:Int)<=57:=by omega
    clear hT hx hall
    have hvI:((bi 0 ((toL s).take k):Nat):Int)<1000000:=by omega
    have hv0:(0:Int)<=((bi 0 ((toL s).take k):Nat):Int):=by omega
    have hval:=zh (show((bi 0 ((toL s).take (k+1)):Nat):Int)=10*((bi 0 ((toL s).take k):Nat):Int)+(((s[k]'hlt).toNat:Int)-48)from by have:=hval.o;omega)
    clear hv
    generalize ((bi 0 ((toL s).take k):Nat):Int)=a at*
    go_wp2_with fail
    go_roundw
    case rel=>exact⟨k+1,by omega,by go_num,congrArg (Value.int .i64) hval.o.symm,hall2.o,trivial⟩
    case measure=>simp[intOf];omega
  ·obtain rfl:k=s.size:=by omega
   rw[List.take_of_length_le (by omega)]at hv⊢
   have KD:=zh (eq (bi 0 (toL s)) wr (by omega))
   by_cases hq:Lib.decDigits (bi 0 (toL s))=toL s
   ·have R:=zh (Aw (by omega) hq)
    have hq':((ofL (Lib.decDigits (bi 0 (toL s)))).toList==s.toList)=true:=by rw[hq,cW];exact beq_self_eq_true _
    generalize bi 0 (toL s)=a at*
    generalize ofL (Lib.decDigits a)=t at*
    go_wp2_with fail
    refine KD.o.mono ?_
    rintro e w2 ⟨rfl,hb⟩
    go_wp2_with fail
    go_ret
    exact⟨congrArg (λx=>Ending.returned (.int .i64 x)) R.o.symm,hb⟩
   ·have R:=zh (Av hq)
    have hq':((ofL (Lib.decDigits (bi 0 (toL s)))).toList==s.toList)=false:=by
     apply Bool.eq_false_iff.2
     intro hh
     exact hq (by rw[<-aZ (Lib.decDigits _),toList_inj hh])
    generalize bi 0 (toL s)=a at*
    generalize ofL (Lib.decDigits a)=t at*
    go_wp2_with fail
    refine KD.o.mono ?_
    rintro e w2 ⟨rfl,hb⟩
    go_wp2_with fail
    go_ret
    exact⟨congrArg (λx=>Ending.returned (.int .i64 x)) R.o.symm,hb⟩
end
section
open Go.Proofs.Tryz
open Go.RowKit Go.Shelf Sl
def lC (x:Nat):Bool:=decide (x<97)||decide (122<x)
theorem ye (s:ByteArray) (i:Nat) (h:(s.get! i).toNat<128):Utf8.decode s i=((s.get! i).toNat,1):=by
 unfold Utf8.decode
 simp only[Nat.add_zero]
 rw[if_pos h]
theorem yf (s:ByteArray) (i:Nat) (h:¬(s.get! i).toNat<128):128<=(Utf8.decode s i).1:=by
 unfold Utf8.decode
 simp only[Nat.add_zero]
 rw[if_neg h]
 repeat' split
 all_goals first|omega|(rename_i hh;simp only[Bool.and_eq_true,decide_eq_true_eq,ge_iff_le]at hh;omega)|(simp[Utf8.runeError];done)
theorem sz (c:UInt8):lC c.toNat= !eE c:=by
 unfold lC eE
 rw[Bool.eq_iff_iff];simp only[Bool.or_eq_true,decide_eq_true_eq,Bool.not_eq_true',Bool.and_eq_false_imp];
 simp;omega
theorem Ay (s:ByteArray):∀f pos,s.size<=pos+f->(0<=Lib.idxFuncFrom lC true s f pos↔ ∃j,pos<=j/\j<s.size/\eE (s.get! j)=false):=by
 intro f
 induction f with
 |zero=>
  intro pos h
  simp only[Lib.idxFuncFrom]
  exact⟨λh=>absurd h (by omega),λ⟨j,h1,h2,_⟩=>by omega⟩
 |succ f ih=>
  intro pos h
  simp only[Lib.idxFuncFrom]
  by_cases hp:pos<s.size
  ·rw[if_pos hp]
   by_cases hlo:(s.get! pos).toNat<128
   ·rw[ye s pos hlo]
    dsimp only
    rw[sz]
    cases hl:eE (s.get! pos)
    ·rw[if_pos (by rfl)]
     exact⟨λ_=>⟨pos,Nat.le_refl _,hp,hl⟩,λ_=>by omega⟩
    ·rw[if_neg (by decide),ih (pos+1) (by omega)]
     refine⟨λ⟨j,h1,h2,h3⟩=>⟨j,by omega,h2,h3⟩,λ⟨j,h1,h2,h3⟩=>⟨j,?_,h2,h3⟩⟩
     rcases Nat.lt_or_ge pos j with h4|h4
     ·omega
     ·have:j=pos:=by omega
      subst this;rw[hl]at h3;cases h3
   ·have h1:=yf s pos hlo
    have h2:lC (Utf8.decode s pos).1=true:=by unfold lC;simp;omega
    rw[if_pos h2]
    refine⟨λ_=>⟨pos,Nat.le_refl _,hp,?_⟩,λ_=>by omega⟩
    unfold eE;simp;omega
  ·rw[if_neg hp]
   exact⟨λh=>absurd h (by omega),λ⟨j,h1,h2,_⟩=>by omega⟩
theorem kH (s:ByteArray) (j:Nat) (h:j<s.size):s.toList[j]? =some (s.get! j):=by
 rw[ByteArray.toList_eq,Array.getElem?_toList]
 have:j<s.data.size:=h
 simp[ByteArray.get!,Array.getElem?_eq_getElem this,getElem!_pos s.data j this]
theorem nP (s:ByteArray):s.toList.length=s.size:=by rw[ByteArray.toList_eq];rfl
theorem sB (s:ByteArray):decide (0<=Lib.idxFunc lC true s)= !(s.toList.all eE):=by
 have h:=Ay s s.size 0 (by omega)
 unfold Lib.idxFunc
 rw[Bool.eq_iff_iff,decide_eq_true_eq,h]
 simp only[Bool.not_eq_true',List.all_eq_false]
 constructor
 ·rintro ⟨j,_,h1,h2⟩
  exact⟨_,List.mem_of_getElem? (kH s j h1),by simp[h2]⟩
 ·rintro ⟨c,hc,h2⟩
  obtain⟨j,hj,rfl⟩:=List.mem_iff_getElem.1 hc
  have hj':j<s.size:=by rw[<-nP];exact hj
  have:=kH s j hj'
  rw[List.getElem?_eq_getElem hj]at this
  injection this with this
  exact⟨j,Nat.zero_le _,hj',by rw[<-this];simpa using h2⟩
theorem uS (c:UInt8):eE c=(decide ((97:Int)<=(c.toNat:Int))&&decide ((c.toNat:Int)<=122)):=by
 unfold eE
 rw[show decide (97<=c.toNat)=decide ((97:Int)<=(c.toNat:Int))from by rw[decide_eq_decide];omega,show decide (c.toNat<=122)=decide ((c.toNat:Int)<=122)from by rw[decide_eq_decide];omega]
theorem uT (x:Nat) (w:World):Calls prog 131 #[.int .i32 (x:Nat)] w λe w'=>e=.returned (.bool (lC x))/\w=w':=by
 by_cases h1:(x:Int)<97
 ·have hv:=zh (show lC x=true from by unfold lC;simp<;>omega)
  go_enter func131,ntmps131
  go_wp2
  go_ret
  exact⟨aH hv.o,rfl⟩
 ·by_cases h2:(122:Int)<x
  ·have hv:=zh (show lC x=true from by unfold lC;simp<;>omega)
   go_enter func131,ntmps131
   go_wp2
   go_ret
   exact⟨aH hv.o,rfl⟩
  ·have hv:=zh (show lC x=false from by unfold lC;simp<;>omega)
   have h2':(x:Int)<=122:=by omega
   go_enter func131,ntmps131
   go_wp2
   go_ret
   exact⟨aH hv.o,rfl⟩
theorem jr (s:ByteArray) (w:World) (hs:s.size<=4611686018427387903):Calls prog 74 #[.string s] w λe w'=>e=.returned (.bool (bj s))/\Below w.heap.size w w':=by
 have hcon:=strings_ContainsFunc 131 #[] (λ_ _=>by kernel_rfl) lC s w (λW x _=>(uT x W).mono λe w' ⟨h1,h2⟩=>⟨h1,0,by rw[<-h2];rfl⟩)
 rw[sB]at hcon
 have HC:=zh hcon
 clear hcon
 by_cases h1:0<s.size
 ·by_cases h2:s.size<=8
  ·have hv:=zh (show bj s=s.toList.all eE from by unfold bj;rw[decide_eq_true (by omega:1<=s.size),decide_eq_true h2];rfl)
   generalize s.toList.all eE=al at*
   cases al
   all_goals
    go_enter func74,ntmps74
    go_wp2_with (go_at_call 130;refine HC.o.mono ?_;rintro e w' ⟨rfl,hb⟩)
    go_ret
    exact⟨aH hv.o,hb⟩
  ·have hv:=zh (show bj s=false from by unfold bj;rw[decide_eq_false h2];simp)
   have h2':(8:Int)<s.size:=by omega
   go_enter func74,ntmps74
   go_wp2_with fail
   go_ret
   exact⟨aH hv.o,Below.refl _ _⟩
 ·have hv:=zh (show bj s=false from by unfold bj;rw[decide_eq_false (by omega:¬1<=s.size)];simp)
  have h1':(s.size:Int)<=0:=by omega
  go_enter func74,ntmps74
  go_wp2_with fail
  go_ret
  exact⟨aH hv.o,Below.refl _ _⟩
theorem ez (s:ByteArray) (w:World) (hs:s.size<=4611686018427387903):Calls prog 146 #[.string s] w λe w'=>e=.returned (.bool (bj s))/\w=w':=by
 by_cases h1:1<=s.size/\s.size<=8
 ·have g1:(decide (1<=(s.size:Int))&&decide ((s.size:Int)<=8))=true:=by simp;omega
  have hv:=zh (show bj s=s.toList.all eE from by unfold bj;rw[decide_eq_true h1.1,decide_eq_true h1.2];rfl)
  obtain⟨h1,h2⟩:=h1
  go_enter func146,ntmps146
  go_wp2_with (go_at_call 88;refine(aW _ _ _ _).mono ?_;rintro e w' ⟨rfl,rfl⟩)
  go_loop [3] (λi=>∃k:Nat,k<=s.size/\i=.int .i64 k/\(s.toList.take k).all eE=true) (λi=>s.size-(intOf i).toNat)
  case atStart=>exact⟨0,Nat.zero_le _,rfl,by simp⟩
  case round=>
   obtain⟨k,hk,rfl,ha⟩:=hrel
   have HA:=zh ha
   clear ha
   by_cases hlt:k<s.size
   ·have hx:=kH s k hlt
    have he:s.get! k=s[k]:=by simp[ByteArray.get!,hlt];rfl
    rw[he]at hx
    have HX:=zh hx
    clear hx he
    have hlb:eE s[k]=(decide (97<=(s[k].toNat:Int))&&decide ((s[k].toNat:Int)<=122)):=uS _
    have HL:=zh hlb
    clear hlb
    by_cases p1:(s[k].toNat:Int)<97
    ·go_wp2
     go_ret
     exact⟨aH (by rw[hv.o,dA _ _ k _ HX.o (by rw[HL.o,decide_eq_false (by omega)];rfl)]),rfl⟩
    ·by_cases p2:122<(s[k].toNat:Int)
     ·go_wp2
      go_ret
      exact⟨aH (by rw[hv.o,dA _ _ k _ HX.o (by rw[HL.o,decide_eq_false (by omega:¬(s[k].toNat:Int)<=122)];simp)]),rfl⟩
     ·have p1':97<=(s[k].toNat:Int):=by omega
      have p2':(s[k].toNat:Int)<=122:=by omega
      go_wp2
      go_round
      case rel=>exact⟨k+1,by omega,by go_num,by rw[bf _ _ k _ HX.o,HA.o,HL.o,decide_eq_true p1',decide_eq_true p2'];rfl⟩
      case measure=>simp[intOf];omega
   ·go_wp2
    go_ret
    exact⟨aH (by rw[hv.o,cP _ _ k (by rw[nP];omega) HA.o]),rfl⟩
 ·have g1:(decide (1<=(s.size:Int))&&decide ((s.size:Int)<=8))=false:=by rw[Bool.eq_false_iff];simp;omega
  have hv:=zh (show bj s=false from by
   unfold bj
   by_cases h2:1<=s.size
   ·rw[decide_eq_false (by omega:¬s.size<=8)];simp
   ·rw[decide_eq_false h2];simp)
  go_enter func146,ntmps146
  go_wp2_with (go_at_call 88;refine(aW _ _ _ _).mono ?_;rintro e w' ⟨rfl,rfl⟩)
  go_ret
  exact⟨aH hv.o,rfl⟩
end
end Go.Proofs.YtdbneghfbkjinaaGreatDoor
