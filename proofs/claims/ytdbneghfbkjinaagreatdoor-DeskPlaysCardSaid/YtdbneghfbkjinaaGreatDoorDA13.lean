/- Texts of the proof of deskPlays_holds: RShape. Conditions: as each text says. -/
import Derived.Test.YtdbneghfbkjinaaGreatDoorDA1
import Derived.Test.YtdbneghfbkjinaaGreatDoorDA11
set_option maxRecDepth 100000
set_option maxHeartbeats 8000000
namespace Go.Proofs.YtdbneghfbkjinaaGreatDoor
open Go.Proofs.Tryz
open Go.RowKit Sl
theorem uZ (v:IV) (m:Img) (w:World) (h:ImgR w w.heap.size v m):
  Calls prog 143 #[.agg #[.int .i64 m.guest,.slice v.rA v.rn v.rc,.slice v.sA v.sn v.sc,.slice v.fA v.fn v.fc,.slice v.pA v.pn v.pc]] w λe w'=>e=.returned (.int .i64 (aB m))/\Below w.heap.size w w':=by
 obtain⟨rA,rn,rc,sA,sn,sc,fA,fn,fc,pA,pn,pc⟩:=v
 have hsl:m.slots.length=sn:=h.slen
 have hpl:m.snaps.length=pn:=h.plen
 have hfl:m.refs.length=fn:=h.flen
 have hsn:sn<=4611686018427387903:=h.scap.1
 have hpn:pn<=4611686018427387903:=h.pcap.1
 have hfn:fn<=4611686018427387903:=h.fcap.1
 have hrn:rn<=4611686018427387903:=h.rcap.1
 dsimp only
 by_cases h1:1<=sn/\sn<=40
 ·have g1:(decide (1<=(sn:Int))&&decide ((sn:Int)<=40))=true:=by simp;omega
  by_cases h2:3<pn
  ·have R:=zh (qx (ky (m:=m) (by omega)))
   clear h hsl hpl hfl
   go_enter func143,ntmps143
   go_wp2_with (go_at_call 88;refine(aW _ _ _ _).mono ?_;rintro e w' ⟨rfl,rfl⟩)
   go_ret
   exact⟨aw R.o,ac _ _⟩
  ·have h2':pn<=3:=by omega
   have hS:=ev (m:=m) (by omega)
   have HE':= λW (hb:Below w.heap.size w W)=>uG sA sn sc m.slots W ((h.slots.below hb (Nat.le_refl _)).more hb.size) hsn
   have HX0:=Box.new w m.guest ⟨rA,rn,rc,sA,sn,sc,fA,fn,fc,pA,pn,pc⟩ 34
   have HB0:=ac w (.cells #[.int .i64 m.guest,.slice rA rn rc,.slice sA sn sc,.slice fA fn fc,.slice pA pn pc] 34)
   by_cases hE:ar m.slots=0/\fn=sn
   ·obtain⟨hE1,rfl⟩:=hE
    have S1:Sh1 m:=⟨hS,hE1,by omega⟩
    have HS1:=zh S1
    rw[hE1]at HE'
    have HE:=zh HE'
    have HI:=zh h
    have HSL:=zh hsl
    have HPL:=zh hpl
    have KN:=zh (λ(y:Int) W (hb:Below w.heap.size w W)=>pu ⟨rA,rn,rc,sA,fn,sc,fA,fn,fc,pA,pn,pc⟩ m y W (h.next hb))
    have KR:=zh (λ(g:Int) (A:Option Addr) (n c:Nat) (root:List Int) W (hb:Below w.heap.size w W) (hr:Rd W W.heap.size 1 A n (ah root)) (hn:n<=4611686018427387903) (g0:0<=g) (g16:g<=16)=>xU ⟨rA,rn,rc,sA,fn,sc,fA,fn,fc,pA,pn,pc⟩ m g A n c root W (h.next hb) hr hn hE1 g0 g16)
    clear hE1 S1 HE' h hsl hpl hfl hS h2
    obtain⟨h11,h12⟩:=h1
    go_enter func143,ntmps143
    go_wp2_with (go_at_call 88;refine(aW _ _ _ _).mono ?_;rintro e w' ⟨rfl,rfl⟩)
    refine(HE.o _ HB0).mono ?_
    rintro e w1 ⟨rfl,hb1⟩
    have HX1:=zh (HX0.keep hb1 (by simp))
    have HB:=zh (aa HB0 hb1)
    have hz1:w.heap.size<w1.heap.size:=by have:=hb1.size;simp at this;omega
    obtain⟨b0,b1,b2,b3,b4⟩:=HX1.o
    dsimp only at b0 b1 b2 b3 b4
    clear hb1 HX0 HB0
    go_wp2_with fail
    clear b0 b1 b2 b3 b4
    go_loopw [3] (λi wr=>∃k:Nat,k<=pn/\i=.int .i64 k/\upto (da m.snaps) k=true/\Below w1.heap.size w1 wr) (λi _=>pn-(intOf i).toNat)
    case atStart=>exact⟨0,Nat.zero_le _,rfl,rfl,Below.refl _ _⟩
    case round=>
     obtain⟨k,hk,rfl,ha,hbw⟩:=hrel
     have HA:=zh ha
     clear ha
     obtain⟨b0,b1,b2,b3,b4⟩:=HX1.o.keep hbw hz1
     dsimp only at b0 b1 b2 b3 b4
     have HBr:=zh (HB.o.trans (hbw.mono (by omega)))
     have hzr:=hbw.size
     by_cases hlt:k<pn
     ·obtain⟨b,o,s,tA,tn,tc,rfl,hb,hx,c0,c1,c2,hsv⟩:=HI.o.snaps.at_ (k:=k) hlt
      have c0':=(HBr.o.cell (p:=⟨b,o+k*3,none⟩) hb).trans c0
      have hnm:=hsv.name
      have kI0:(0:Int)<=(k:Int):=by omega
      have kIn:(k:Int)<(pn:Int):=by omega
      cases hn:bj s.name
      ·have HF:=zh (show da m.snaps k=false from by unfold da;rw[bY hx,hn];rfl)
       clear hx c0 c1 c2 hsv
       go_wp2_with fail
       go_quiet ((go_at_call 146;exact iJ (hn▸ez _ _ hnm)))
       go_wp2_with fail
       go_ret
       exact⟨aw (lf HS1.o (by unfold cq;rw[HPL.o];exact bO hlt HF.o)),zb HBr.o _⟩
      ·by_cases hk0:k=0
       ·subst hk0
        have HF:=zh ((AA hx).trans hn)
        simp only[Nat.zero_mul,Nat.add_zero]at c0'
        clear hx c0 c1 c2 hsv
        go_wp2_with fail
        go_quiet ((go_at_call 146;exact iJ (hn▸ez _ _ hnm)))
        go_wp2_with fail
        go_roundw
        case rel=>exact⟨0+1,by omega,by go_num,by rw[co,HA.o,HF.o];rfl,zb hbw _⟩
        case measure=>simp[intOf];omega
       ·obtain⟨b',o',s',tA',tn',tc',he',hb',hx',c0p,_,_,hsv'⟩:=HI.o.snaps.at_ (k:=k-1) (by dsimp only;omega)
        simp only[Option.some.injEq,Addr.mk.injEq,and_true]at he'
        obtain⟨rfl,rfl⟩:=he'
        have hlt':=im s'.name s.name
        have hF:=sC hx hx' (by omega)
        rw[hn,Bool.true_and]at hF
        have c0p':=(HBr.o.cell (p:=⟨b,o+(k-1)*3,none⟩) hb).trans c0p
        have kk1:decide ((0:Int)<(k:Int))=true:=by simp;omega
        have kk1b:decide (0<k)=true:=by simp;omega
        have kk2:(0:Int)<=(k:Int)-1:=by omega
        have kk3:(k:Int)-1<(pn:Int):=by omega
        have kk4:((k:Int)-1).toNat=k-1:=by omega
        have kk5:IntKind.i64.wrap ((k:Int)-1)=(k:Int)-1:=IntWalk.i64_in _ (by omega)
        have HF:=zh hF
        clear hF
        cases hlx:bI s'.name s.name
        ·rw[hlx]at HF hlt'
         clear hx c0 c1 c2 hsv hx' c0p hsv' hlx
         go_wp2_with fail
         go_quiet ((go_at_call 146;exact iJ (hn▸ez _ _ hnm)))
         clear kk5
         go_wp2_with fail
         go_ret
         exact⟨aw (lf HS1.o (by unfold cq;rw[HPL.o];exact bO hlt HF.o)),zb HBr.o _⟩
        ·rw[hlx]at HF hlt'
         clear hx c0 c1 c2 hsv hx' c0p hsv' hlx
         go_wp2_with fail
         go_quiet ((go_at_call 146;exact iJ (hn▸ez _ _ hnm)))
         clear kk5
         go_wp2_with fail
         go_roundw
         case rel=>exact⟨k+1,by omega,by go_num,by rw[co,HA.o,HF.o];rfl,zb hbw _⟩
         case measure=>simp[intOf];omega
     ·have hkn:k=pn:=by omega
      have HN:=zh (show cq m.snaps=true from by unfold cq;rw[HPL.o,<-hkn];exact HA.o)
      clear HA hkn
      cases hg:(decide (0<=m.guest)&&decide (m.guest<=16))
      ·have R:=zh (show aV m=false from by unfold aV a7;rw[hg];rfl)
       go_wp2_with (go_at_call 88;refine(aW _ _ _ _).mono ?_;rintro e w' ⟨rfl,rfl⟩)
       go_ret
       exact⟨aw (m4 HS1.o HN.o R.o),HBr.o⟩
      ·have HG0:=zh hg
       go_wp2_with (go_at_call 88;refine(aW _ _ _ _).mono ?_;rintro e w' ⟨rfl,rfl⟩)
       go_loop [4] (λi=>∃k2:Nat,k2<=pn/\i=.int .i64 k2/\(m.snaps.take k2).all (λs=>a7 s.guest)=true) (λi=>pn-(intOf i).toNat)
       case atStart=>exact⟨0,Nat.zero_le _,rfl,rfl⟩
       case round=>
        obtain⟨k2,hk2,rfl,ha⟩:=hrel
        have HA:=zh ha
        clear ha
        by_cases hlt2:k2<pn
        ·obtain⟨b,o,s,tA,tn,tc,rfl,hb,hx,c0,c1,c2,hsv⟩:=HI.o.snaps.at_ (k:=k2) hlt2
         have c1':=(HBr.o.cell (p:=⟨b,o+k2*3+1,none⟩) hb).trans c1
         have HX:=zh hx
         clear hx c0 c1 c2 hsv
         cases hgs:(decide (0<=s.guest)&&decide (s.guest<=16))
         ·have R:=zh (show aV m=false from by unfold aV;rw[dA _ m.snaps k2 s HX.o hgs,Bool.and_false])
          go_wp2_with (go_at_call 88;refine(aW _ _ _ _).mono ?_;rintro e w' ⟨rfl,rfl⟩)
          go_ret
          exact⟨aw (m4 HS1.o HN.o R.o),HBr.o⟩
         ·have HGS:=zh (show a7 s.guest=true from hgs)
          go_wp2_with (go_at_call 88;refine(aW _ _ _ _).mono ?_;rintro e w' ⟨rfl,rfl⟩)
          go_round
          case rel=>exact⟨k2+1,by omega,by go_num,by rw[bf _ m.snaps k2 s HX.o,HA.o,HGS.o];rfl⟩
          case measure=>simp[intOf];omega
        ·have HG:=zh (show aV m=true from by unfold aV;rw[cP _ m.snaps k2 (by rw[HPL.o];omega) HA.o,Bool.and_true];exact HG0.o)
         clear HA
         go_wp2_with fail
         obtain⟨W1,hW1⟩:∃W1:World,W1=wr:=⟨_,rfl⟩
         rw[<-hW1]at hbw HBr b0 b1 b2 b3 b4 hzr⊢
         clear hW1 b0 b1 b2 b3 b4
         go_loopw [5,6,7] (λi _ _ wq=>∃k3:Nat,k3<=fn/\i=.int .i64 k3/\(m.slots.take k3).all (λs=>s.table.all (aX m.slots))=true/\Below w1.heap.size w1 wq) (λi _ _ _=>fn-(intOf i).toNat)
         case atStart=>exact⟨0,Nat.zero_le _,rfl,rfl,hbw⟩
         case round=>
          clear hbw HBr hzr
          obtain⟨k3,hk3,rfl,ha,hbw⟩:=hrel
          have HA:=zh ha
          clear ha
          obtain⟨b0,b1,b2,b3,b4⟩:=HX1.o.keep hbw hz1
          dsimp only at b0 b1 b2 b3 b4
          have HBr:=zh (HB.o.trans (hbw.mono (by omega)))
          have hzr:=hbw.size
          by_cases hlt3:k3<fn
          ·obtain⟨b,o,s,tA,tn,tc,rfl,hb,hx,c0,c1,c2,hsv⟩:=HI.o.slots.at_ (k:=k3) hlt3
           have c2':=(HBr.o.cell (p:=⟨b,o+k3*3+2,none⟩) hb).trans c2
           have HX:=zh hx
           have HSV:=zh hsv
           have htn:tn<=tc:=hsv.len
           have htc:tc<=9223372036854775807:=hsv.cap.2
           clear hx c0 c1 c2 hsv
           go_wp2_with fail
           clear c2'
           obtain⟨W2,hW2⟩:∃W2:World,W2=wr:=⟨_,rfl⟩
           rw[<-hW2]at hbw HBr b0 b1 b2 b3 b4 hzr⊢
           clear hW2 b0 b1 b2 b3 b4
           go_loopw [7] (λi wq=>∃j:Nat,j<=tn/\i=.int .i64 j/\(s.table.take j).all (aX m.slots)=true/\Below w1.heap.size w1 wq) (λi _=>tn-(intOf i).toNat)
           case atStart=>exact⟨0,Nat.zero_le _,rfl,rfl,hbw⟩
           case round=>
            clear hbw HBr hzr
            obtain⟨j,hj,rfl,ha,hbw⟩:=hrel
            have HA2:=zh ha
            clear ha
            obtain⟨b0,b1,b2,b3,b4⟩:=HX1.o.keep hbw hz1
            dsimp only at b0 b1 b2 b3 b4
            have HBr:=zh (HB.o.trans (hbw.mono (by omega)))
            have hzr:=hbw.size
            by_cases hltj:j<tn
            ·obtain⟨b6,o6,x,rfl,hb6,hx6,hcell6⟩:=HSV.o.table.at1 hltj
             have hcell:=(HBr.o.cell (p:=⟨b6,o6+j,none⟩) hb6).trans hcell6
             have HX6:=zh hx6
             have j0:(0:Int)<=(j:Int):=by omega
             have j1:(j:Int)<(tn:Int):=by omega
             clear hx6 hcell6
             by_cases hx0:0<x
             ·have hd:decide (0<x)=true:=by simp[hx0]
              have heo:=kI (l:=m.slots) hx0
              have KN2:=zh (KN.o x)
              have HBD:Below w.heap.size w wr.drew:=zb HBr.o 1
              have hbwd:Below w1.heap.size w1 wr.drew:=zb hbw 1
              have hzd:wr.drew.heap.size=wr.heap.size:=rfl
              cases hk1:(aQ m.slots x !=1)
              ·have HEO:=zh (show aX m.slots x=true from by rw[heo];simpa using hk1)
               clear heo
               go_wp2_with fail
               go_still_tail 11,(by kernel_rfl)
               go_wp2_with fail
               refine(KN2.o _ HBD).mono ?_
               rintro e w5 ⟨rfl,hb5⟩
               go_wp2_with fail
               go_roundw
               case rel=>exact⟨j+1,by omega,by go_num,by rw[bf _ s.table j x HX6.o,HA2.o,HEO.o];rfl,hbwd.trans (hb5.mono (by omega))⟩
               case measure=>simp[intOf];omega
              ·have HEO:=zh (show aX m.slots x=false from by rw[heo];simpa using hk1)
               clear heo
               go_wp2_with fail
               go_still_tail 11,(by kernel_rfl)
               go_wp2_with fail
               refine(KN2.o _ HBD).mono ?_
               rintro e w5 ⟨rfl,hb5⟩
               go_wp2_with fail
               go_ret
               exact⟨aw (ph HS1.o HN.o HG.o (dA _ m.slots k3 s HX.o (dA _ s.table j x HX6.o HEO.o))),aa HBD hb5⟩
             ·have hd:decide (0<x)=false:=by simp;omega
              have HEO:=zh (nQ (l:=m.slots) (show x<=0 by omega))
              clear hx0
              go_wp2_with fail
              go_quiet (fail)
              go_wp2_with fail
              go_roundw
              case rel=>exact⟨j+1,by omega,by go_num,by rw[bf _ s.table j x HX6.o,HA2.o,HEO.o];rfl,zb hbw _⟩
              case measure=>simp[intOf];omega
            ·have HD:=zh (cP _ s.table j (by rw[HSV.o.table.len];omega) HA2.o)
             go_wp2_with fail
             go_roundw
             case rel=>exact⟨k3+1,by omega,by go_num,by rw[bf _ m.slots k3 s HX.o,HA.o,HD.o];rfl,hbw⟩
             case measure=>simp[intOf];omega
          ·have HT:=zh (show a8 m.slots=true from cP _ m.slots k3 (by rw[HSL.o];omega) HA.o)
           have hgg:=HG0.o
           rw[Bool.and_eq_true,decide_eq_true_eq,decide_eq_true_eq]at hgg
           obtain⟨gg1,gg2⟩:=hgg
           have KR0:=KR.o m.guest rA rn rc m.root wr HBr.o ((HI.o.root.below HBr.o (Nat.le_refl _)).more HBr.o.size) hrn gg1 gg2
           cases hr0:rootFine m.slots m.guest m.root
           ·rw[hr0]at KR0
            have KR1:=zh KR0
            have HR0:=zh hr0
            clear KR0 hr0 gg1 gg2 HA
            go_wp2_with fail
            refine KR1.o.mono ?_
            rintro e w5 ⟨rfl,hb5⟩
            go_wp2_with fail
            go_ret
            exact⟨aw (m5 HS1.o HN.o HG.o HT.o (by unfold bU;rw[HR0.o];rfl)),aa HBr.o hb5⟩
           ·rw[hr0]at KR0
            have KR1:=zh KR0
            have HR0:=zh hr0
            clear KR0 hr0 gg1 gg2 HA
            go_wp2_with fail
            refine KR1.o.mono ?_
            rintro e w5 ⟨rfl,hb5⟩
            have hbw5:Below w1.heap.size w1 w5:=hbw.trans (hb5.mono hzr)
            clear hbw HBr hzr b0 b1 b2 b3 b4 hb5
            go_wp2_with fail
            go_loopw [8] (λi wq=>∃k4:Nat,k4<=pn/\i=.int .i64 k4/\(m.snaps.take k4).all (λs=>rootFine m.slots s.guest s.root)=true/\Below w1.heap.size w1 wq) (λi _=>pn-(intOf i).toNat)
            case atStart=>exact⟨0,Nat.zero_le _,rfl,rfl,hbw5⟩
            case round=>
             clear hbw5
             obtain⟨k4,hk4,rfl,ha,hbw⟩:=hrel
             have HA:=zh ha
             clear ha
             obtain⟨b0,b1,b2,b3,b4⟩:=HX1.o.keep hbw hz1
             dsimp only at b0 b1 b2 b3 b4
             have HBr:=zh (HB.o.trans (hbw.mono (by omega)))
             have hzr:=hbw.size
             by_cases hlt4:k4<pn
             ·obtain⟨b,o,s,tA,tn,tc,rfl,hb,hx,c0,c1,c2,hsv⟩:=HI.o.snaps.at_ (k:=k4) hlt4
              have c1':=(HBr.o.cell (p:=⟨b,o+k4*3+1,none⟩) hb).trans c1
              have c2':=(HBr.o.cell (p:=⟨b,o+k4*3+2,none⟩) hb).trans c2
              have hgs:a7 s.guest=true:=by
               have:=HG.o
               unfold aV at this
               rw[Bool.and_eq_true,List.all_eq_true]at this
               exact this.2 s (List.mem_of_getElem? hx)
              unfold a7 at hgs
              rw[Bool.and_eq_true,decide_eq_true_eq,decide_eq_true_eq]at hgs
              obtain⟨gg1,gg2⟩:=hgs
              have HBD:Below w.heap.size w wr.drew:=zb HBr.o 1
              have hbwd:Below w1.heap.size w1 wr.drew:=zb hbw 1
              have hzd:wr.drew.heap.size=wr.heap.size:=rfl
              have KR0:=KR.o s.guest tA tn tc s.root wr.drew HBD ((hsv.root.below HBD (Nat.le_refl _)).more HBD.size) (hsv.cap.1) gg1 gg2
              have HX:=zh hx
              have i0:(0:Int)<=(k4:Int):=by omega
              have i1:(k4:Int)<(pn:Int):=by omega
              clear hx c0 c1 c2 hsv gg1 gg2
              cases hr1:rootFine m.slots s.guest s.root
              ·rw[hr1]at KR0
               have KR2:=zh KR0
               have HR1:=zh hr1
               clear KR0 hr1
               go_wp2_with fail
               go_still_tail 13,(by kernel_rfl)
               go_wp2_with fail
               refine KR2.o.mono ?_
               rintro e w6 ⟨rfl,hb6⟩
               go_wp2_with fail
               go_ret
               exact⟨aw (m5 HS1.o HN.o HG.o HT.o (by unfold bU;rw[dA _ m.snaps k4 s HX.o HR1.o,Bool.and_false])),aa HBD hb6⟩
              ·rw[hr1]at KR0
               have KR2:=zh KR0
               have HR1:=zh hr1
               clear KR0 hr1
               go_wp2_with fail
               go_still_tail 13,(by kernel_rfl)
               go_wp2_with fail
               refine KR2.o.mono ?_
               rintro e w6 ⟨rfl,hb6⟩
               go_wp2_with fail
               go_roundw
               case rel=>exact⟨k4+1,by omega,by go_num,by rw[bf _ m.snaps k4 s HX.o,HA.o,HR1.o];rfl,hbwd.trans (hb6.mono (by omega))⟩
               case measure=>simp[intOf];omega
             ·have HRA:=zh (show bU m=true from by unfold bU;rw[cP _ m.snaps k4 (by rw[HPL.o];omega) HA.o,HR0.o];rfl)
              go_wp2_with fail
              go_ret
              exact⟨aw (zV HS1.o HN.o HG.o HT.o HRA.o),HBr.o⟩
   ·have R:=zh (rG (m:=m) hS (by omega))
    have hor:(ar m.slots !=0)=true\/(ar m.slots=0/\((fn:Int) !=(sn:Int))=true):=by
     by_cases h0:ar m.slots=0
     ·exact .inr ⟨h0,by simp;omega⟩
     ·exact .inl (by simpa using h0)
    generalize ar m.slots=er at HE' hor
    clear hE h hsl hpl hfl hS h2
    obtain⟨h11,h12⟩:=h1
    rcases hor with hor|⟨rfl,hor⟩
    all_goals
     have HE:=zh HE'
     clear HE'
     go_enter func143,ntmps143
     go_wp2_with (go_at_call 88;refine(aW _ _ _ _).mono ?_;rintro e w' ⟨rfl,rfl⟩)
     refine(HE.o _ HB0).mono ?_
     rintro e w1 ⟨rfl,hb1⟩
     obtain⟨b0,b1,b2,b3,b4⟩:=HX0.keep hb1 (by simp)
     dsimp only at b0 b1 b2 b3 b4
     have HB:=zh (aa HB0 hb1)
     clear hb1 HX0 HB0
     go_wp2_with fail
     go_ret
     exact⟨aw R.o,HB.o⟩
 ·have R:=zh (qx (ky (m:=m) (by omega)))
  have g1:(decide (1<=(sn:Int))&&decide ((sn:Int)<=40))=false:=by rw[Bool.eq_false_iff];simp;omega
  clear h hsl hpl hfl h1
  go_enter func143,ntmps143
  go_wp2_with (go_at_call 88;refine(aW _ _ _ _).mono ?_;rintro e w' ⟨rfl,rfl⟩)
  go_ret
  exact⟨aw R.o,ac _ _⟩
end Go.Proofs.YtdbneghfbkjinaaGreatDoor
