/- Texts of the proof of deskPlays_holds: DProg1, DRef2, DProg2. Conditions: as each text says. -/
import Derived.Test.YtdbneghfbkjinaaGreatDoorDA1
import Derived.Test.YtdbneghfbkjinaaGreatDoorDA17
import Derived.Test.YtdbneghfbkjinaaGreatDoorDA18
import Derived.Lib.SmallJoins
import Derived.Lib.AppendIntMem
set_option maxRecDepth 100000
set_option maxHeartbeats 1000000
namespace Go.Proofs.YtdbneghfbkjinaaGreatDoor
section
open Go.Proofs.Tryz
open Go.RowKit Sl
structure Glob (B:Nat) (w:World):Prop where
 syn:∃tp p,w.var? prog "strconv.ErrSyntax" =some #[.iface tp p]
 ran:∃tp p,w.var? prog "strconv.ErrRange" =some #[.iface tp p]
 tab:Lib.TabIs prog w "internal/strconv.uint64pow10" .u64 Lib.pow10Tab
 len0:∃m,w.cell? ⟨0,0,none⟩=some (.int .i64 m)
 few:4<=B
theorem AK:prog.globalNamed "strconv.ErrSyntax" =some 2:=by kernel_rfl
theorem vm:prog.globalNamed "strconv.ErrRange" =some 3:=by kernel_rfl
theorem AL:prog.globalNamed "internal/strconv.uint64pow10" =some 1:=by kernel_rfl
theorem nU {w w':World} {n:String} {g:Nat} (hg:prog.globalNamed n=some g) (hk:w'.heap[g]? =w.heap[g]?):w'.var? prog n=w.var? prog n:=by
 unfold World.var?
 rw[hg]
 simp only[Option.bind_some,hk]
theorem Glob.keep {B:Nat} {w w':World} (h:Glob B w) (hk:∀k,k<B->w'.heap[k]? =w.heap[k]?):Glob B w':=by
 have hf:=h.few
 obtain⟨m,hm⟩:=h.len0
 refine⟨?_,?_,?_,⟨m,?_⟩,hf⟩
 ·rw[nU AK (hk 2 (by omega))];exact h.syn
 ·rw[nU vm (hk 3 (by omega))];exact h.ran
 ·show w'.var? prog _=_
  rw[nU AL (hk 1 (by omega))];exact h.tab
 ·rw[World.cell?_of_block (hk 0 (by omega))];exact hm
theorem Glob.below {B M:Nat} {w w':World} (h:Glob B w) (hb:Below M w w') (hM:B<=M):Glob B w':=h.keep λk hk=>hb.block k (by omega)
def oU (e:Int):Value:=.iface 58 (.agg #[.int .i64 e])
theorem qU (w:World):Calls prog 38 #[.int .i64 0] w λe w'=>e=.returned (.tuple #[])/\w'=w:=by
 go_enter func38,ntmps38
 go_wp2_with fail
 go_end0
 exact⟨rfl,rfl⟩
theorem jZ (e:Int) (w:World) (h:e≠0):Calls prog 38 #[.int .i64 e] w λr w'=>r=.panicked [{v:=oU e,recovered:=false}]/\w'=w:=by
 have h':(e !=0)=true:=by simpa using h
 go_enter func38,ntmps38
 go_wp2_with fail
 exact⟨rfl,rfl,rfl⟩
def Dm (o:Option Nat) (w:World) (e:Ending) (w':World):Prop:=
 match o with
 |none=>e=.panicked [{v:=oU 1,recovered:=false}]/\Below w.heap.size w w'
 |some n=>e=.returned (.int .i64 (n:Nat))/\Below w.heap.size w w'
theorem qV (B:Nat) (s:ByteArray) (w:World) (hG:Glob B w) (hB:B<=w.heap.size) (hs:s.size<=281474976710656):Calls prog 31 #[.string s] w (Dm (eD (toL s)) w):=by
 have hN:=As (toL s)
 have M1:=zh (λW=>jZ 1 W (by decide))
 cases ha:Lib.atoiAll (toL s)with
 |range=>
  obtain⟨tp,p,hv⟩:=hG.ran
  have K:=zh (strconv_Atoi_range_var s hs ha tp p w hv)
  rw[ha]at hN
  rw[<-hN]
  generalize Lib.atoiSat (s.data.toList)=x at*
  clear hN ha hG hv
  go_enter func31,ntmps31
  go_wp2_with fail
  refine K.o.mono ?_
  rintro e w2 ⟨N,rfl,_,_,hb⟩
  go_wp2_with fail
  refine(M1.o _).mono ?_
  rintro e w3 ⟨rfl,rfl⟩
  exact⟨rfl,rfl,hb⟩
 |ok v=>
  have hvb:=Lib.atoiAll_bounds ha
  have K:=zh (strconv_Atoi_ok s (by omega) v ha w)
  rw[ha]at hN
  simp only at hN
  rw[<-hN]
  have hsl:=bv s
  by_cases h0:v<0
  ·rw[if_pos (.inl h0)]
   clear hN ha hG
   go_enter func31,ntmps31
   go_wp2_with fail
   refine K.o.mono ?_
   rintro e w2 ⟨rfl,hw⟩
   have hb:Below w.heap.size w w2:=by
    rcases hw with rfl|⟨t,rfl⟩
    ·exact Below.refl _ _
    ·exact Joins.below_bytesWorld _ _ _ _ (Nat.le_refl _)
   clear hw
   go_wp2_with fail
   refine(M1.o _).mono ?_
   rintro e w3 ⟨rfl,rfl⟩
   exact⟨rfl,rfl,hb⟩
  by_cases h6:6<s.size
  ·rw[if_pos (.inr (.inl (by omega)))]
   have h6':(6:Int)<(s.size:Int):=by omega
   have h0':(0:Int)<=v:=by omega
   clear hN ha hG
   go_enter func31,ntmps31
   go_wp2_with fail
   refine K.o.mono ?_
   rintro e w2 ⟨rfl,hw⟩
   have hb:Below w.heap.size w w2:=by
    rcases hw with rfl|⟨t,rfl⟩
    ·exact Below.refl _ _
    ·exact Joins.below_bytesWorld _ _ _ _ (Nat.le_refl _)
   clear hw
   go_wp2_with fail
   refine(M1.o _).mono ?_
   rintro e w3 ⟨rfl,rfl⟩
   exact⟨rfl,rfl,hb⟩
  have h6':(s.size:Int)<=6:=by omega
  have h0':(0:Int)<=v:=by omega
  have HG:=zh hG
  have KI:=zh (λW (hb:Below w.heap.size w W)=>strconv_Itoa v hvb.1 hvb.2 W (hG.below hb hB).tab)
  have hit:(⟨(Lib.itoa v).toArray⟩:ByteArray)=ofL (Lib.itoa v):=rfl
  rw[hit]at KI
  clear hG
  by_cases hq:Lib.itoa v=toL s
  ·rw[if_neg (by rintro (h|h|h);exact h0 h;omega;exact h hq)]
   have hq':((ofL (Lib.itoa v)).toList==s.toList)=true:=by rw[hq,cW];exact beq_self_eq_true _
   have hvn:((v.toNat:Nat):Int)=v:=by omega
   clear hN ha
   have HV:=zh hvn
   clear hvn
   generalize ofL (Lib.itoa v)=t at*
   go_enter func31,ntmps31
   go_wp2_with fail
   refine K.o.mono ?_
   rintro e w2 ⟨rfl,hw⟩
   have hb:Below w.heap.size w w2:=by
    rcases hw with rfl|⟨t,rfl⟩
    ·exact Below.refl _ _
    ·exact Joins.below_bytesWorld _ _ _ _ (Nat.le_refl _)
   clear hw
   go_wp2_with fail
   refine(KI.o _ hb).mono ?_
   rintro e w3 ⟨rfl,kk,os,rfl⟩
   have hb3:=hb.trans ((Lib.below_grow w2.heap.size w2 (Nat.le_refl _) kk os).mono hb.size)
   generalize Sort.grow (w2.drewN kk) os=w3 at*
   go_wp2_with fail
   go_ret
   exact⟨congrArg (λx=>Ending.returned (.int .i64 x)) HV.o.symm,hb3⟩
  ·rw[if_pos (.inr (.inr hq))]
   have hq':((ofL (Lib.itoa v)).toList==s.toList)=false:=by
    apply Bool.eq_false_iff.2
    intro hh
    exact hq (by rw[<-aZ (Lib.itoa v),toList_inj hh])
   clear hN ha
   generalize ofL (Lib.itoa v)=t at*
   go_enter func31,ntmps31
   go_wp2_with fail
   refine K.o.mono ?_
   rintro e w2 ⟨rfl,hw⟩
   have hb:Below w.heap.size w w2:=by
    rcases hw with rfl|⟨t,rfl⟩
    ·exact Below.refl _ _
    ·exact Joins.below_bytesWorld _ _ _ _ (Nat.le_refl _)
   clear hw
   go_wp2_with fail
   refine(KI.o _ hb).mono ?_
   rintro e w3 ⟨rfl,kk,os,rfl⟩
   have hb3:=hb.trans ((Lib.below_grow w2.heap.size w2 (Nat.le_refl _) kk os).mono hb.size)
   generalize Sort.grow (w2.drewN kk) os=w3 at*
   go_wp2_with fail
   refine(M1.o _).mono ?_
   rintro e w4 ⟨rfl,rfl⟩
   exact⟨rfl,rfl,hb3⟩
 |_=>
  obtain⟨tp,p,hv⟩:=hG.syn
  have K:=zh (strconv_Atoi_syntax_var s hs ha tp p w hv)
  rw[ha]at hN
  rw[<-hN]
  clear hN ha hG hv
  go_enter func31,ntmps31
  go_wp2_with fail
  refine K.o.mono ?_
  rintro e w2 ⟨N,rfl,_,_,hb⟩
  go_wp2_with fail
  refine(M1.o _).mono ?_
  rintro e w3 ⟨rfl,rfl⟩
  exact⟨rfl,rfl,hb⟩
theorem DM {W:World} {b:Nat} {T:TypeId} (h:BoxG W b T) (hc:∃g v,Box W b g v) (g:Int) (v:IV):Box (((((W.setCell ⟨b,0,none⟩ (.int .i64 g)).setCell ⟨b,1,none⟩ (.slice v.rA v.rn v.rc)).setCell ⟨b,2,none⟩ (.slice v.sA v.sn v.sc)).setCell ⟨b,3,none⟩ (.slice v.fA v.fn v.fc)).setCell ⟨b,4,none⟩ (.slice v.pA v.pn v.pc)) b g v/\BoxG (((((W.setCell ⟨b,0,none⟩ (.int .i64 g)).setCell ⟨b,1,none⟩ (.slice v.rA v.rn v.rc)).setCell ⟨b,2,none⟩ (.slice v.sA v.sn v.sc)).setCell ⟨b,3,none⟩ (.slice v.fA v.fn v.fc)).setCell ⟨b,4,none⟩ (.slice v.pA v.pn v.pc)) b T/\W.grownBy (((((W.setCell ⟨b,0,none⟩ (.int .i64 g)).setCell ⟨b,1,none⟩ (.slice v.rA v.rn v.rc)).setCell ⟨b,2,none⟩ (.slice v.sA v.sn v.sc)).setCell ⟨b,3,none⟩ (.slice v.fA v.fn v.fc)).setCell ⟨b,4,none⟩ (.slice v.pA v.pn v.pc)) (some b):=by
 obtain⟨g',v',c0,c1,c2,c3,c4⟩:=hc
 refine⟨⟨?_,?_,?_,?_,?_⟩,((((h.set _ _).set _ _).set _ _).set _ _).set _ _,((((ai W b 0 _).trans (ai _ b 1 _)).trans (ai _ b 2 _)).trans (ai _ b 3 _)).trans (ai _ b 4 _)⟩<;>go_simp
structure Tb (w:World) (tb:Nat) (m:Img):Prop where
 ty:BoxG w tb 37
 img:∃base tg v q p,OwnI w base tg v q p m/\Box w tb m.guest v
theorem Tb.next {w w':World} {tb:Nat} {m:Img} (h:Tb w tb m) (hb:Below w.heap.size w w'):Tb w' tb m:=by
 obtain⟨base,tg,v,q,p,h1,h2⟩:=h.img
 exact⟨h.ty.next hb,base,tg,v,q,p,h1.next hb,h2.keep hb h.ty.ty.lt⟩
theorem Cx (tb:Nat) (m z:Img) (v:IV) (base:Nat) (tg:Nat->Nat) (q:List SV) (p:List PV) (w:World) (h:Tb w tb m) (ho:OwnI w base tg v q p z):
  Calls prog 29 #[.pointer (some ⟨tb,0,none⟩),ae z v,.int .i64 0] w λe w'=>e=.returned (.string {data:=#[111,107]})/\Tb w' tb z/\w.grownBy w' (some tb):=by
 have hl:=h.ty.ty.lt
 obtain⟨base0,tg0,v0,q0,p0,h1,h2⟩:=h.img
 have B1:=ac w (.cells #[.int .i64 z.guest,.slice v.rA v.rn v.rc,.slice v.sA v.sn v.sc,.slice v.fA v.fn v.fc,.slice v.pA v.pn v.pc] 34)
 have X1:=Box.new w z.guest v 34
 have O1:=ho.next B1
 have Y1:=h.ty.next B1
 have Z1:=h2.keep B1 hl
 have hg1:=fi (World.grownBy.refl w (some tb)) B1
 have h5:=DM Y1 ⟨_,_,Z1⟩ z.guest v
 have hT:Tb _ tb z:=⟨h5.2.1,base,tg,v,q,p,O1.kept h5.2.2 Y1.ty (by decide) (by decide) (by decide),h5.1⟩
 have HF:=zh (And.intro hT (hg1.trans h5.2.2))
 obtain⟨z0,z1,z2,z3,z4⟩:=Z1
 have y0:=Y1.fz 0
 have y1:=Y1.fz 1
 have y2:=Y1.fz 2
 have y3:=Y1.fz 3
 have y4:=Y1.fz 4
 obtain⟨rA,rn,rc,sA,sn,sc,fA,fn,fc,pA,pn,pc⟩:=v
 obtain⟨x0,x1,x2,x3,x4⟩:=X1
 dsimp only[ae]at x0 x1 x2 x3 x4 HF z0 z1 z2 z3 z4 y0 y1 y2 y3 y4⊢
 clear h h1 h2 B1 O1 Y1 hg1 h5 hT ho
 have KM:=zh qU
 go_enter func29,ntmps29
 go_wp2_with fail
 generalize w.alloc (.cells #[.int .i64 z.guest,.slice rA rn rc,.slice sA sn sc,.slice fA fn fc,.slice pA pn pc] 34)=w1 at*
 refine(KM.o _).mono ?_
 rintro e w2 ⟨rfl,rfl⟩
 go_wp2_with fail
 go_ret
 exact⟨rfl,HF.o.1,HF.o.2⟩
theorem Cy (tb:Nat) (er:Int) (z:Img) (v:IV) (w:World) (he:er≠0):
  Calls prog 29 #[.pointer (some ⟨tb,0,none⟩),ae z v,.int .i64 er] w λe w'=>e=.panicked [{v:=oU er,recovered:=false}]/\Below w.heap.size w w':=by
 have B1:=ac w (.cells #[.int .i64 z.guest,.slice v.rA v.rn v.rc,.slice v.sA v.sn v.sc,.slice v.fA v.fn v.fc,.slice v.pA v.pn v.pc] 34)
 have KM:=zh (λW=>jZ er W he)
 dsimp only[ae]
 clear he
 go_enter func29,ntmps29
 go_wp2_with fail
 refine(KM.o _).mono ?_
 rintro e w2 ⟨rfl,rfl⟩
 exact⟨rfl,rfl,B1⟩
end
section
open Go.Proofs.Tryz
open Go.RowKit Sl
theorem yt {w:World} {b i:Nat} {cs:Array Value} {T:TypeId} {fr:Nat×Nat} (hb:w.heap[b]? =some (.cells cs T fr)) (v:Value):(w.setCell ⟨b,i,none⟩ v).heap[b]? =some (.cells (cs.setIfInBounds i v) T fr):=by
 simp[World.setCell,Array.getElem?_modify,hb]
theorem AM (b o n:Nat):(⟨b,o,none⟩:Addr).add n=⟨b,o+n,none⟩:=by
 unfold Addr.add
 by_cases h:n=0<;>simp[h]
theorem yu (p:ByteArray) (w:World) (hp:p.size<=100000):Calls prog 52 #[.string p] w λe w'=>e=.returned (.string (ofL (cC (toL p))))/\Below w.heap.size w w':=by
 have hcv:=run_bytes_of_string (P:=prog) w 9 39 5 p underlying9 underlying39 underlying5
 have hcap:=grownCap_ge w p.size 0 5
 generalize grownCap w p.size 0 5=cap at hcv hcap
 have hrow:=bytesRow_at p cap
 have hrsz:(bytesRow p cap).size=cap:=by simp[bytesRow];have:p.data.size=p.size:=rfl;omega
 generalize hW:w.drew.alloc (.cells (bytesRow p cap) 5 ((bytesRow p cap).size,(bytesRow p cap).size+1))=W1 at hcv
 have hblk:W1.heap[w.heap.size]? =some (.cells (bytesRow p cap) 5 ((bytesRow p cap).size,(bytesRow p cap).size+1)):=by rw[<-hW];exact heap_alloc_new w.drew _
 have hbw:Below w.heap.size w W1:=by rw[<-hW];exact(Below.refl w.heap.size w).drew.alloc (Nat.le_refl _) _
 rw[hrsz]at hblk
 have hl:=bv p
 have HC:=zh (show∃cur:Array Value,W1.heap[w.heap.size]? =some (.cells cur 5 (cap,cap+1))/\ ∀(j:Nat) (b:UInt8),(toL p)[j]? =some b->cur[j]? =some (.int .u8 (((if j<0 then shB b else b).toNat:Nat):Int))from⟨_,hblk,λj b hj=>by
  have h1:=(zl hj)
  rw[hrow j (by have:p.data.size=p.size:=rfl;omega),if_neg (by omega)]
  have h2:=(List.getElem?_eq_some_iff.1 hj).2
  have:p.data[j]'(by have:p.data.size=p.size:=rfl;omega)=b:=by simpa[toL]using h2
  rw[this]⟩)
 have HB:=zh hbw
 clear hrow hblk hW hbw hrsz
 generalize hn:p.size=n at*
 go_enter func52,ntmps52
 go_wp2_with fail
 go_loopw [4] (λi wr=>∃k:Nat,k<=n/\i=.int .i64 k/\(∃cur:Array Value,wr.heap[w.heap.size]? =some (.cells cur 5 (cap,cap+1))/\ ∀(j:Nat) (b:UInt8),(toL p)[j]? =some b->cur[j]? =some (.int .u8 (((if j<k then shB b else b).toNat:Nat):Int)))/\Below w.heap.size w wr) (λi _=>n-(intOf i).toNat)
 case atStart=>exact⟨0,Nat.zero_le _,rfl,HC.o,HB.o⟩
 case round=>
  obtain⟨k,hk,rfl,⟨cur,hh,hc⟩,hb⟩:=hrel
  clear HC HB hcv
  by_cases hlt:k<n
  ·have hx:=List.getElem?_eq_getElem (show k<(toL p).length by omega)
   generalize (toL p)[k]=x at hx
   have hcx:=hc k x hx
   rw[if_neg (by omega)]at hcx
   have cx:=(cell_of_row wr w.heap.size k _ _ _ hh).trans hcx
   have fx:wr.frozen? ⟨w.heap.size,k,none⟩=false:=by simp[World.frozen?,hh];omega
   have hsz:k<cur.size:=(za hcx)
   have e0:(0:Int)<=(k:Int):=by omega
   have e1:(k:Int)<(n:Int):=by omega
   have hlw:w.heap.size<wr.heap.size:=(za hh)
   cases hB:((x.toNat:Int)==0)
   ·have H2:=zh (show∃cur:Array Value,wr.heap[w.heap.size]? =some (.cells cur 5 (cap,cap+1))/\ ∀(j:Nat) (b:UInt8),(toL p)[j]? =some b->cur[j]? =some (.int .u8 (((if j<k+1 then shB b else b).toNat:Nat):Int))from⟨cur,hh,λj b hj=>by
     rw[hc j b hj]
     by_cases hjk:j=k
     ·subst hjk
      rw[hx]at hj
      injection hj with hj
      subst hj
      rw[if_neg (by omega),if_pos (by omega)]
      have:shB x=x:=by unfold shB;rw[if_neg (λe=>by subst e;cases hB)]
      rw[this]
     ·by_cases h1:j<k
      ·rw[if_pos h1,if_pos (by omega)]
      ·rw[if_neg h1,if_neg (by omega)]⟩)
    have HB:=zh hb
    clear hc hcx hh hx hb hsz
    go_wp2_with fail
    go_roundw
    case rel=>exact⟨k+1,by omega,by go_num,H2.o,HB.o⟩
    case measure=>simp[intOf];omega
   ·have hx0:x=0:=UInt8.toNat_inj.1 (by have:(x.toNat:Int)=0:=by simpa using hB
                                        show x.toNat=0;omega)
    have H2:=zh (show∃cur:Array Value,(wr.setCell ⟨w.heap.size,k,none⟩ (.int .u8 46)).heap[w.heap.size]? =some (.cells cur 5 (cap,cap+1))/\ ∀(j:Nat) (b:UInt8),(toL p)[j]? =some b->cur[j]? =some (.int .u8 (((if j<k+1 then shB b else b).toNat:Nat):Int))from⟨_,yt hh (.int .u8 46),λj b hj=>by
     by_cases hjk:j=k
     ·subst hjk
      rw[hx]at hj
      injection hj with hj
      subst hj
      rw[Array.getElem?_setIfInBounds_self_of_lt hsz,if_pos (by omega),hx0];rfl
     ·rw[Array.getElem?_setIfInBounds_ne (Ne.symm hjk),hc j b hj]
      by_cases h1:j<k
      ·rw[if_pos h1,if_pos (by omega)]
      ·rw[if_neg h1,if_neg (by omega)]⟩)
    have HB:=zh (hb.setCell (p:=⟨w.heap.size,k,none⟩) (Nat.le_refl _) (.int .u8 46))
    clear hc hcx hh hx hb hsz
    go_wp2_with fail
    go_roundw
    case rel=>exact⟨k+1,by omega,by go_num,H2.o,HB.o⟩
    case measure=>simp[intOf];omega
  ·obtain rfl:k=n:=by omega
   have hcv:(convert 39 9 (.slice (some ⟨w.heap.size,0,none⟩) k cap)).run prog wr=.ok (.string (ofL (cC (toL p)))) wr:=by
    have:=run_convert_bytes_back wr 39 9 5 ⟨w.heap.size,0,none⟩ cap (cC (toL p)) underlying39 underlying5 underlying9 λj hj=>by
     have hj':j<(toL p).length:=by simpa[cC]using hj
     rw[AM,Nat.zero_add,cell_of_row wr w.heap.size j _ _ _ hh,hc j _ (List.getElem?_eq_getElem hj'),if_pos (by omega)]
     simp[cC]
    rwa [show(cC (toL p)).length=k from by simp[cC,hl]]at this
   have HB:=zh hb
   clear hc hh hb
   obtain⟨t,ht⟩:∃t,t=ofL (cC (toL p)):=⟨_,rfl⟩
   rw[<-ht]at hcv
   have HT:=zh ht
   clear ht
   go_wp2_with fail
   go_ret
   rw[<-HT.o]
   exact⟨rfl,HB.o⟩
def gF (e:Int):List UInt8:=if e=0 then[46]else if e= -1 then[48]else Lib.decDigits e.toNat
def dh (m:Img):Nat->List UInt8
 |0=>[]
 |n+1=>dh m n++(if n=0 then[]else[32])++gF (ag m.slots m.root n)
def lH (m:Img):List UInt8:=if m.guest=0 then[110,111,110,101]else dh m m.guest.toNat
theorem mn {m:Img} (h:ab m=0) (n:Nat): -1<=ag m.slots m.root n/\ag m.slots m.root n<40:=by
 obtain⟨h1,h2⟩:=nk h m.root n
 refine⟨h1,?_⟩
 by_cases h0:0<ag m.slots m.root n
 ·obtain⟨k,s,e,hs,_⟩:=h2 h0
  have:=(zl hs)
  have:=(dz (aq h).1).slots
  omega
 ·omega
theorem AN {e:Int} (h:e<40):(gF e).length<=9:=by
 unfold gF
 split
 ·simp
 ·split
  ·simp
  ·exact cS (by omega)
theorem mo {m:Img} (h:ab m=0) (n:Nat):(dh m n).length<=10*n:=by
 induction n with
 |zero=>simp[dh]
 |succ n ih=>
  have:=AN (mn h n).2
  unfold dh
  rw[List.length_append,List.length_append]
  split<;>simp only[List.length_nil,List.length_cons]<;>omega
theorem yv (m:Img) {n:Nat} (h:0<n):dh m n≠[]:=by
 cases n with
 |zero=>omega
 |succ n=>
  unfold dh
  intro e
  have:=(List.append_eq_nil_iff.1 e).2
  unfold gF at this
  split at this
  ·cases this
  ·split at this
   ·cases this
   ·have h1:=(gn (ag m.slots m.root n).toNat).2.1
    rw[this]at h1
    simp at h1
theorem mp {m:Img} (h:ab m=0):∃g:Nat,m.guest=(g:Nat)/\g<=16:=by
 have hg:=(ay (aq h).1).guests
 unfold aV a7 at hg
 simp only[Bool.and_eq_true,decide_eq_true_eq]at hg
 exact⟨m.guest.toNat,by omega,by omega⟩
theorem sL (v:IV) (m:Img) (w:World) (h:ImgR w w.heap.size v m) (hm:ab m=0):Calls prog 47 #[ae m v] w λe w'=>e=.returned (.string (ofL (lH m)))/\Below w.heap.size w w':=by
 obtain⟨g,hg,hg16⟩:=mp hm
 have KL':= λ(n:Nat) (hn:n<g) W (hb:Below w.heap.size w W)=>ju v m n W (h.next hb) (jW hm (by omega))
 have HE:=zh (mn hm)
 have HL:=zh (mo hm)
 have HP:=zh (λn=>yv m (n:=n))
 have HV:=zh (show lH m=if g=0 then[110,111,110,101]else dh m g from by unfold lH;rw[hg];simp)
 have HX':=Box.new w m.guest v 34
 obtain⟨rA,rn,rc,sA,sn,sc,fA,fn,fc,pA,pn,pc⟩:=v
 dsimp only[ae]at KL' HX'⊢
 rw[hg]at KL' HX'⊢
 have HX:=zh HX'
 have KL:=zh KL'
 have HB1:=ac w (.cells #[.int .i64 (g:Nat),.slice rA rn rc,.slice sA sn sc,.slice fA fn fc,.slice pA pn pc] 34)
 have hz:w.heap.size<(w.alloc (.cells #[.int .i64 (g:Nat),.slice rA rn rc,.slice sA sn sc,.slice fA fn fc,.slice pA pn pc] 34)).heap.size:=by simp
 clear h hm hg KL' HX'
 obtain⟨V,hV⟩:∃V,V=lH m:=⟨_,rfl⟩
 rw[<-hV]
 rw[<-hV]at HV
 clear hV
 go_enter func47,ntmps47
 go_wp2_with fail
 generalize w.alloc (.cells #[.int .i64 (g:Nat),.slice rA rn rc,.slice sA sn sc,.slice fA fn fc,.slice pA pn pc] 34)=w1 at*
 go_loopw [3,4] (λo i wr=>∃k:Nat,k<=g/\i=.int .i64 k/\o=.string (ofL (dh m k))/\Below w1.heap.size w1 wr) (λ_ i _=>g-(intOf i).toNat)
 case atStart=>exact⟨0,Nat.zero_le _,rfl,rfl,Below.refl _ _⟩
 case round=>
  obtain⟨k,hk,rfl,rfl,hb⟩:=hrel
  obtain⟨x0,x1,x2,x3,x4⟩:=HX.o.keep hb hz
  dsimp only at x0 x1 x2 x3 x4
  have hlk:=HL.o k
  have hs1:(ofL (dh m k)).size<=200:=by rw[aT];omega
  by_cases hlt:k<g
  ·have K2:=zh (λW hb=>KL.o k hlt W hb)
   have hE:=HE.o k
   have e0:(0:Int)<=(k:Int):=by omega
   have e1:(k:Int)<(g:Int):=by omega
   have HT:=zh (show ofL (dh m (k+1))=ofL (dh m k)++ofL (if k=0 then[]else[32])++ofL (gF (ag m.slots m.root k))from by rw[ee,ee];rfl)
   obtain⟨R,hR⟩:∃R,R=ofL (dh m (k+1)):=⟨_,rfl⟩
   rw[<-hR]at HT
   have HR:=zh hR
   clear hR hlk
   generalize ag m.slots m.root k=e at*
   generalize hT0:ofL (dh m k)=t at*
   clear hT0
   have HBr:=zh (aa HB1 hb)
   have hbs:=hb.size
   cases hk0:decide ((0:Int)<(k:Int))
   ·obtain rfl:k=0:=by simp at hk0;omega
    rw[if_pos rfl,show ofL []=ByteArray.empty from rfl,ByteArray.append_empty]at HT
    rw[show((0:Nat):Int)=0 from rfl]at K2⊢
    cases h0:(e==0)
    ·cases h1:(e== -1)
     ·have KD:=zh (λW=>eq e.toNat W (by omega))
      have he1:¬e=0:=by simpa using h0
      have he2:¬e= -1:=by simpa using h1
      have hen:((e.toNat:Nat):Int)=e:=by omega
      rw[hen]at KD
      have hET:gF e=Lib.decDigits e.toNat:=by unfold gF;rw[if_neg he1,if_neg he2]
      have hds:(ofL (Lib.decDigits e.toNat)).size<=9:=by rw[aT];exact cS (by omega)
      rw[hET]at HT
      generalize ofL (Lib.decDigits e.toNat)=dd at*
      clear hen hET he1 he2
      go_wp2_with fail
      refine(K2.o _ HBr.o).mono ?_
      rintro e' w2 ⟨rfl,hb2⟩
      go_wp2_with fail
      refine(KD.o _).mono ?_
      rintro e' w3 ⟨rfl,hb3⟩
      have HW:=zh (aa hb2 hb3)
      clear hb2 hb3
      go_wp2_with fail
      go_roundw
      case rel=>exact⟨0+1,hlt,by go_num,congrArg Value.string (HT.o.symm.trans HR.o),hb.trans (HW.o.mono hbs)⟩
      case measure=>simp[intOf];omega
     ·obtain rfl:e= -1:=by simpa using h1
      rw[show gF (-1)=[48]from rfl]at HT
      go_wp2_with fail
      refine(K2.o _ HBr.o).mono ?_
      rintro e' w2 ⟨rfl,hb2⟩
      have HW:=zh hb2
      clear hb2
      go_wp2_with fail
      go_roundw
      case rel=>exact⟨0+1,hlt,by go_num,congrArg Value.string (HT.o.symm.trans HR.o),hb.trans (HW.o.mono hbs)⟩
      case measure=>simp[intOf];omega
    ·obtain rfl:e=0:=by simpa using h0
     rw[show gF (0)=[46]from rfl]at HT
     go_wp2_with fail
     refine(K2.o _ HBr.o).mono ?_
     rintro e' w2 ⟨rfl,hb2⟩
     have HW:=zh hb2
     clear hb2
     go_wp2_with fail
     go_roundw
     case rel=>exact⟨0+1,hlt,by go_num,congrArg Value.string (HT.o.symm.trans HR.o),hb.trans (HW.o.mono hbs)⟩
     case measure=>simp[intOf];omega
   ·have hkp:(0:Int)<(k:Int):=by simpa using hk0
    rw[if_neg (by omega)]at HT
    cases h0:(e==0)
    ·cases h1:(e== -1)
     ·have KD:=zh (λW=>eq e.toNat W (by omega))
      have he1:¬e=0:=by simpa using h0
      have he2:¬e= -1:=by simpa using h1
      have hen:((e.toNat:Nat):Int)=e:=by omega
      rw[hen]at KD
      have hET:gF e=Lib.decDigits e.toNat:=by unfold gF;rw[if_neg he1,if_neg he2]
      have hds:(ofL (Lib.decDigits e.toNat)).size<=9:=by rw[aT];exact cS (by omega)
      rw[hET]at HT
      generalize ofL (Lib.decDigits e.toNat)=dd at*
      clear hen hET he1 he2
      go_wp2_with fail
      refine(K2.o _ HBr.o).mono ?_
      rintro e' w2 ⟨rfl,hb2⟩
      go_wp2_with fail
      refine(KD.o _).mono ?_
      rintro e' w3 ⟨rfl,hb3⟩
      have HW:=zh (aa hb2 hb3)
      clear hb2 hb3
      go_wp2_with fail
      go_roundw
      case rel=>exact⟨k+1,hlt,by go_num,congrArg Value.string (HT.o.symm.trans HR.o),hb.trans (HW.o.mono hbs)⟩
      case measure=>simp[intOf];omega
     ·obtain rfl:e= -1:=by simpa using h1
      rw[show gF (-1)=[48]from rfl]at HT
      go_wp2_with fail
      refine(K2.o _ HBr.o).mono ?_
      rintro e' w2 ⟨rfl,hb2⟩
      have HW:=zh hb2
      clear hb2
      go_wp2_with fail
      go_roundw
      case rel=>exact⟨k+1,hlt,by go_num,congrArg Value.string (HT.o.symm.trans HR.o),hb.trans (HW.o.mono hbs)⟩
      case measure=>simp[intOf];omega
    ·obtain rfl:e=0:=by simpa using h0
     rw[show gF (0)=[46]from rfl]at HT
     go_wp2_with fail
     refine(K2.o _ HBr.o).mono ?_
     rintro e' w2 ⟨rfl,hb2⟩
     have HW:=zh hb2
     clear hb2
     go_wp2_with fail
     go_roundw
     case rel=>exact⟨k+1,hlt,by go_num,congrArg Value.string (HT.o.symm.trans HR.o),hb.trans (HW.o.mono hbs)⟩
     case measure=>simp[intOf];omega
  ·obtain rfl:k=g:=by omega
   rcases Nat.eq_zero_or_pos k with rfl|hkp
   ·rw[if_pos rfl]at HV
    have hr:=jT
    rw[show ofL (dh m 0)=ofL []from rfl]
    have HV2:=zh (show Value.string (ofL V)=.string {data:=#[110,111,110,101]}from by rw[HV.o];rfl)
    rw[show((0:Nat):Int)=0 from rfl]at x0⊢
    generalize ofL []=t at*
    have HBr:=zh (aa HB1 hb)
    go_wp2_with fail
    go_ret
    exact⟨congrArg Ending.returned HV2.o.symm,HBr.o⟩
   ·rw[if_neg (by omega)]at HV
    have hr:(ofL (dh m k)).toList.isEmpty=false:=by
     cases hh:(ofL (dh m k)).toList with
     |nil=>exact absurd (by rw[<-aZ (dh m k)];exact xe hh) (HP.o k hkp)
     |cons _ _=>rfl
    have HV2:=zh (show Value.string (ofL V)=.string (ofL (dh m k))from by rw[HV.o])
    generalize ofL (dh m k)=t at*
    have HBr:=zh (aa HB1 hb)
    go_wp2_with fail
    go_ret
    exact⟨congrArg Ending.returned HV2.o.symm,HBr.o⟩
end
section
open Go.Proofs.Tryz
open Go.RowKit Sl
def kj (m:Img) (k:Nat):List (List UInt8):=(List.range k).map λn=>gF (ag m.slots m.root n)
theorem pL (m:Img) (k:Nat):kj m (k+1)=kj m k++[gF (ag m.slots m.root k)]:=by simp[kj,List.range_succ]
theorem vn (s a:List UInt8) (l:List (List UInt8)):s.intercalate (l++[a])=if l=[]then a else s.intercalate l++s++a:=by
 induction l with
 |nil=>simp[List.intercalate]
 |cons b r ih=>
  rw[if_neg (by simp)]
  cases r with
  |nil=>simp[List.intercalate]
  |cons c r'=>
   rw[if_neg (by simp)]at ih
   simp only[List.intercalate,List.cons_append,List.intersperse_cons_cons,List.flatten_cons]at ih⊢
   rw[ih]
   simp
theorem AO (m:Img) (k:Nat):Lib.join (kj m k) [32]=dh m k:=by
 induction k with
 |zero=>rfl
 |succ k ih=>
  unfold Lib.join at ih⊢
  rw[pL,vn,ih,show dh m (k+1)=dh m k++(if k=0 then[]else[32])++gF (ag m.slots m.root k)from rfl]
  cases k with
  |zero=>rfl
  |succ k=>rw[if_neg (by simp[kj]),if_neg (by omega)]
theorem qW (tb:Nat) (m:Img) (w:World) (h:Tb w tb m) (hm:ab m=0):Calls prog 61 #[.pointer (some ⟨tb,0,none⟩)] w λe w'=>e=.returned (.string (ofL (lH m)))/\Below w.heap.size w w':=by
 obtain⟨i0,hi0,hz0,hz1,hz2⟩:=info_parts infoStr
 obtain⟨g,hg,hg16⟩:=mp hm
 obtain⟨base,tg,v,q,p,ho,hx⟩:=h.img
 have hl:=h.ty.ty.lt
 have KL':= λ(n:Nat) (hn:n<g) W (hb:Below w.heap.size w W)=>fh v m n W (ho.imgR.next hb)
 have HLK:=zh (λ(n:Nat) (hn:n<g)=>mV hm (n:=n) (by omega))
 have HE:=zh (mn hm)
 have HLen:=zh (mo hm)
 have HV:=zh (show lH m=if g=0 then[110,111,110,101]else dh m g from by unfold lH;rw[hg];simp)
 obtain⟨rA,rn,rc,sA,sn,sc,fA,fn,fc,pA,pn,pc⟩:=v
 dsimp only at KL' hx
 rw[hg]at KL' hx
 have HX:=zh hx
 have KL:=zh KL'
 clear h hm hg KL' hx ho
 obtain⟨V,hV⟩:∃V,V=lH m:=⟨_,rfl⟩
 rw[<-hV]
 rw[<-hV]at HV
 clear hV
 obtain⟨x0,x1,x2,x3,x4⟩:=HX.o
 dsimp only at x0 x1 x2 x3 x4
 go_enter func61,ntmps61
 go_wp2_with fail
 clear x0 x1 x2 x3 x4
 go_loopw [3,12] (λo i wr=>∃(k c:Nat) (A:Option Addr),k<=g/\i=.int .i64 k/\o=.slice A k c/\wr.ownsRow w.heap.size 9 1 (.slice A k c) k ((kj m k).map λx=>.string (ofL x))/\k<=c/\Below w.heap.size w wr) (λ_ i _=>g-(intOf i).toNat)
 case atStart=>exact⟨0,0,none,Nat.zero_le _,rfl,rfl,World.ownsRow_nil _ _ _ _,Nat.le_refl _,Below.refl _ _⟩
 case round=>
  obtain⟨k,c,A,hk,rfl,rfl,ho,hkc,hb⟩:=hrel
  obtain⟨x0,x1,x2,x3,x4⟩:=HX.o.keep hb hl
  dsimp only at x0 x1 x2 x3 x4
  by_cases hlt:k<g
  ·have e0:(0:Int)<=(k:Int):=by omega
   have e1:(k:Int)<(g:Int):=by omega
   have K2:=KL.o k hlt wr hb
   rw[(HLK.o k hlt).1,(HLK.o k hlt).2]at K2
   have K2:=zh K2
   have hE:=HE.o k
   have HT:=zh (show(kj m (k+1)).map (λx=>Value.string (ofL x))=(kj m k).map (λx=>Value.string (ofL x))++[.string (ofL (gF (ag m.slots m.root k)))]from by rw[pL];simp)
   have HO:=zh ho
   clear ho
   generalize ag m.slots m.root k=e at*
   have step:= λ(W:World) (hw:Below w.heap.size wr W) (hw2:Below wr.heap.size wr W)=>cK (P:=prog) W w.heap.size 118 118 9 i0 _ 1 16 underlying118 hi0 hz0 hz1 hz2 rfl (by omega) _ _ _ (aI HO.o hw2) #[.string (ofL (gF e))] rfl
    (by intro u hu;simp at hu;subst hu;rfl) (by omega) (by unfold maxLen;omega) (by have:=hb.size;have:=hw.size;omega)
   have HS:=zh step
   clear step
   cases h0:(e==0)
   ·cases h1:(e== -1)
    ·have he1:¬e=0:=by simpa using h0
     have he2:¬e= -1:=by simpa using h1
     have hen:((e.toNat:Nat):Int)=e:=by omega
     have KD:=zh (λW=>strconv_Itoa_small e.toNat (by omega) W)
     rw[hen,show(⟨(Lib.decDigits e.toNat).toArray⟩:ByteArray)=ofL (gF e)from by unfold gF;rw[if_neg he1,if_neg he2];rfl]at KD
     clear hen he1 he2
     go_wp2_with fail
     refine K2.o.mono ?_
     rintro e' w2 ⟨rfl,hb2⟩
     go_wp2_with fail
     refine(KD.o _).mono ?_
     rintro e' w3 ⟨rfl,rfl⟩
     obtain⟨A2,c2,w4,q1,q2,q3,q4,q5,_,_⟩:=HS.o w3 (hb2.mono hb.size) hb2
     have HR:=zh q1
     have HO2:=zh q2
     have HB4:=zh (hb.trans ((hb2.mono hb.size).trans q3))
     clear q1 q2 q3 hb2 K2 KD HS HO
     generalize ofL (gF e)=tt at*
     go_wp2_with (at_builtin;refine aA rfl _ _ _ _ rfl rfl rfl rfl HR.o ?_)
     go_roundw
     case rel=>exact⟨k+1,c2,A2,by omega,by go_num,rfl,by rw[HT.o];exact HO2.o,q4,HB4.o⟩
     case measure=>simp[intOf];omega
    ·obtain rfl:e= -1:=by simpa using h1
     rw[show ofL (gF (-1))={data:=#[48]}from rfl]at HS
     go_wp2_with fail
     refine K2.o.mono ?_
     rintro e' w3 ⟨rfl,hb2⟩
     obtain⟨A2,c2,w4,q1,q2,q3,q4,q5,_,_⟩:=HS.o w3 (hb2.mono hb.size) hb2
     have HR:=zh q1
     have HO2:=zh q2
     have HB4:=zh (hb.trans ((hb2.mono hb.size).trans q3))
     clear q1 q2 q3 hb2 K2 HS HO
     go_wp2_with (at_builtin;refine aA rfl _ _ _ _ rfl rfl rfl rfl HR.o ?_)
     go_roundw
     case rel=>exact⟨k+1,c2,A2,by omega,by go_num,rfl,by rw[HT.o];exact HO2.o,q4,HB4.o⟩
     case measure=>simp[intOf];omega
   ·obtain rfl:e=0:=by simpa using h0
    rw[show ofL (gF (0))={data:=#[46]}from rfl]at HS
    go_wp2_with fail
    refine K2.o.mono ?_
    rintro e' w3 ⟨rfl,hb2⟩
    obtain⟨A2,c2,w4,q1,q2,q3,q4,q5,_,_⟩:=HS.o w3 (hb2.mono hb.size) hb2
    have HR:=zh q1
    have HO2:=zh q2
    have HB4:=zh (hb.trans ((hb2.mono hb.size).trans q3))
    clear q1 q2 q3 hb2 K2 HS HO
    go_wp2_with (at_builtin;refine aA rfl _ _ _ _ rfl rfl rfl rfl HR.o ?_)
    go_roundw
    case rel=>exact⟨k+1,c2,A2,by omega,by go_num,rfl,by rw[HT.o];exact HO2.o,q4,HB4.o⟩
    case measure=>simp[intOf];omega
  ·obtain rfl:k=g:=by omega
   clear HLK KL HE
   rcases Nat.eq_zero_or_pos k with rfl|hkp
   ·rw[if_pos rfl]at HV
    have HV2:=zh (show Value.string (ofL V)=.string {data:=#[110,111,110,101]}from by rw[HV.o];rfl)
    clear ho
    rw[show((0:Nat):Int)=0 from rfl]at x0⊢
    go_wp2_with fail
    go_ret
    exact⟨congrArg Ending.returned HV2.o.symm,hb⟩
   ·rw[if_neg (by omega)]at HV
    obtain⟨bk,rfl,hbk1,hbk2⟩:=bK ho hkp
    have hll:((kj m k).map ofL).length=k:=by simp[kj]
    have hmm:((kj m k).map ofL).map (·.data.toList)=kj m k:=by
     rw[List.map_map]
     conv=>rhs;rw[<-List.map_id (kj m k)]
     exact List.map_congr_left λx _=>aZ x
    have hjn:Lib.join (((kj m k).map ofL).map (·.data.toList)) ([32]:List UInt8)=dh m k:=by rw[hmm];exact AO m k
    have KJ:=strings_Join bk 0 c ((kj m k).map ofL) {data:=#[32]} wr (λj x hj=>by
     rw[List.getElem?_map]at hj
     have hc:=ho.cells (g:=bk) rfl j (.string x) (by
      rw[List.getElem?_map]
      cases hh:(kj m k)[j]? with
      |none=>rw[hh]at hj;cases hj
      |some y=>rw[hh]at hj;simp only[Option.map_some,Option.some.injEq]at hj;rw[<-hj];rfl)
     rw[AM]at hc
     exact hc) hbk2 (by rw[hll];omega) (by rw[hll];exact hkc) (by
      rw[show(({data:=#[32]}:ByteArray).data.toList)=[32]from rfl,hjn]
      have:=HLen.o k;omega)
    rw[hll,show(({data:=#[32]}:ByteArray).data.toList)=[32]from rfl,hjn,show(⟨(dh m k).toArray⟩:ByteArray)=ofL (dh m k)from rfl,<-HV.o]at KJ
    have KJ:=zh KJ
    have hk0:(0:Int)<(k:Int):=by omega
    clear ho hjn hmm hll HV HLen
    go_wp2_with fail
    refine KJ.o.mono ?_
    rintro e w2 ⟨rfl,hb2⟩
    go_wp2_with fail
    go_ret
    exact⟨rfl,aa hb hb2⟩
end
end Go.Proofs.YtdbneghfbkjinaaGreatDoor
