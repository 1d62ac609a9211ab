/- Texts of the proof of deskPlays_holds: Shape. Conditions: as each text says. -/
import Derived.Test.YtdbneghfbkjinaaGreatDoorDA1
import Derived.Test.YtdbneghfbkjinaaGreatDoorDA11
set_option maxRecDepth 100000
set_option maxHeartbeats 8000000
namespace Go.Proofs.YtdbneghfbkjinaaGreatDoor
open Go.Proofs.Tryz
open Go.RowKit Go.Shelf Sl
attribute [local go_sem] Oper.semAt_some
theorem nR (w:World) (cs:Array Value) (T:TypeId) (j:Nat):(w.alloc (.cells cs T)).cell? ⟨w.heap.size,j,none⟩=cs[j]? :=cell_of_row _ _ j cs T (0,0) (heap_alloc_new w _)
theorem uY (W:World) (v:Value) (t:TypeId):(W.alloc (.cells #[v] t)).cell? ⟨W.heap.size,0,none⟩=some v/\(W.alloc (.cells #[v] t)).frozen? ⟨W.heap.size,0,none⟩=false:=
 ⟨nR W #[v] t 0,free_of_one (heap_alloc_new W _)⟩
theorem pG (v:IV) (m:Img) (w:World) (h:ImgR w w.heap.size v m):
  Calls prog 115 #[.agg #[.int .i64 m.guest,.slice v.rA v.rn v.rc,.slice v.sA v.sn v.sc,.slice v.fA v.fn v.fc,.slice v.pA v.pn v.pc]] w λe w'=>e=.returned (.int .i64 (aB m))/\Below w.heap.size w w':=by
 obtain⟨rA,rn,rc,sA,sn,sc,fA,fn,fc,pA,pn,pc⟩:=v
 have hsl:m.slots.length=sn:=h.slen
 have hpl:m.snaps.length=pn:=h.plen
 have hfl:m.refs.length=fn:=h.flen
 have hsn:sn<=4611686018427387903:=h.scap.1
 have hpn:pn<=4611686018427387903:=h.pcap.1
 have hfn:fn<=4611686018427387903:=h.fcap.1
 have hrn:rn<=4611686018427387903:=h.rcap.1
 dsimp only
 refine(callsIn_wide (n:=8)).1 ?_
 refine callsIn_of_wp_marks func115 rfl trivial ?_ rfl
 simp only[ntmps115,List.size_toArray,List.length_cons,List.length_nil,Nat.reduceAdd,Nat.reduceSub,Array.replicate_succ,Array.replicate_zero,List.push_toArray,List.append_toArray,List.nil_append,List.cons_append]
 by_cases h1:1<=sn/\sn<=40/\pn<=3
 ·obtain⟨h11,h12,h13⟩:=h1
  have hS:=ev (m:=m) (by omega)
  have HE':= λW (hb:Below w.heap.size w W)=>rU sA sn sc m.slots W ((h.slots.below hb (Nat.le_refl _)).more hb.size) hsn
  obtain⟨wb,hwb⟩:∃wb,(w.alloc (.cells #[.int .i64 m.guest,.slice rA rn rc,.slice sA sn sc,.slice fA fn fc,.slice pA pn pc] 34)).alloc (.cells #[.int .i64 0] 22)=wb:=⟨_,rfl⟩
  have HX0:Box wb w.heap.size m.guest ⟨rA,rn,rc,sA,sn,sc,fA,fn,fc,pA,pn,pc⟩:=by rw[<-hwb];exact(Box.new w m.guest ⟨rA,rn,rc,sA,sn,sc,fA,fn,fc,pA,pn,pc⟩ 34).keep (ac _ _) (by simp)
  have hz0:wb.heap.size=w.heap.size+1+1:=by rw[<-hwb];simp
  have HB0:Below w.heap.size w wb:=by rw[<-hwb];exact((Below.refl _ _).alloc (Nat.le_refl _) _).alloc (by simp) _
  have ht2:=uY (w.alloc (.cells #[.int .i64 m.guest,.slice rA rn rc,.slice sA sn sc,.slice fA fn fc,.slice pA pn pc] 34)) (.int .i64 0) 22
  rw[hwb,World.size_alloc]at ht2
  have HWB:=zh hwb
  clear hwb
  by_cases hE:ar m.slots=0/\fn=sn
  ·obtain⟨hE1,rfl⟩:=hE
   have S1:Sh1 m:=⟨hS,hE1,by omega⟩
   have HS1:=zh S1
   rw[hE1]at HE'
   have HE:=zh HE'
   have HI:=zh h
   have HSL:=zh hsl
   have HPL:=zh hpl
   clear S1 HE' h hsl hpl hfl hS
   gi_wp2_with fail
   rw[HWB.o]
   refine⟨trivial,(callsIn_wide.2 (HE.o _ HB0)).mono ?_⟩
   rintro e w1 ⟨rfl,hb1⟩
   have HX1:=zh (HX0.keep hb1 (by omega))
   have t2c:=(hb1.cell (p:=⟨w.heap.size+1,0,none⟩) (by show w.heap.size+1<_;omega)).trans ht2.1
   have t2f:=(hb1.frozen (p:=⟨w.heap.size+1,0,none⟩) (by show w.heap.size+1<_;omega)).trans ht2.2
   have HT2:=zh (And.intro t2c t2f)
   have HB:=zh (aa HB0 hb1)
   have hz1:w.heap.size+1<w1.heap.size:=by have:=hb1.size;omega
   obtain⟨b0,b1,b2,b3,b4⟩:=HX1.o
   dsimp only at b0 b1 b2 b3 b4
   clear hb1 HX0 HB0 ht2 t2c t2f
   gi_wp2_with fail
   clear b0 b1 b2 b3 b4
   gi_loopw [49,5,7] (λi u _ wr=>∃k:Nat,k<=pn/\i=.int .i64 k/\u=.string (gD m.snaps k)/\upto (da m.snaps) k=true/\Below w1.heap.size w1 wr) (λi _ _ _=>pn-(intOf i).toNat)
   case atStart=>exact⟨0,Nat.zero_le _,rfl,rfl,rfl,Below.refl _ _⟩
   case round=>
    obtain⟨k,hk,rfl,rfl,ha,hbw⟩:=hrel
    have HA:=zh ha
    clear ha
    obtain⟨b0,b1,b2,b3,b4⟩:=HX1.o.keep hbw (by omega)
    dsimp only at b0 b1 b2 b3 b4
    have HBr:=zh (HB.o.trans (hbw.mono (by omega)))
    have t2c:=(hbw.cell (p:=⟨w.heap.size+1,0,none⟩) hz1).trans HT2.o.1
    have t2f:=(hbw.frozen (p:=⟨w.heap.size+1,0,none⟩) hz1).trans HT2.o.2
    have hzr:=hbw.size
    by_cases hlt:k<pn
    ·obtain⟨b,o,s,tA,tn,tc,rfl,hb,hx,c0,c1,c2,hsv⟩:=HI.o.snaps.at_ (k:=k) hlt
     have c0':=(HBr.o.cell (p:=⟨b,o+k*3,none⟩) hb).trans c0
     have c1':=(HBr.o.cell (p:=⟨b,o+k*3+1,none⟩) hb).trans c1
     have c2':=(HBr.o.cell (p:=⟨b,o+k*3+2,none⟩) hb).trans c2
     have hbox:=nR wr #[.string s.name,.int .i64 s.guest,.slice tA tn tc] 102 0
     have hsz:(wr.alloc (.cells #[.string s.name,.int .i64 s.guest,.slice tA tn tc] 102)).heap.size=wr.heap.size+1:=by simp
     have HBa:=zh (ac wr (.cells #[.string s.name,.int .i64 s.guest,.slice tA tn tc] 102))
     have KN:=jr s.name (wr.alloc (.cells #[.string s.name,.int .i64 s.guest,.slice tA tn tc] 102)) hsv.name
     have hnl:=sF hx
     have hls:=oT hx
     have hlq:=Cr s.name (gD m.snaps k)
     generalize gD m.snaps k=ln at hnl hlq
     have HLS:=zh hls
     have HBOX:=zh hbox
     clear hx c0 c1 c2 hsv hls hbox
     cases hn:bj s.name
     ·rw[hn]at KN hnl
      rw[Bool.false_and]at hnl
      have HNL:=zh hnl
      have KN2:=zh KN
      clear hn hnl KN hlq
      gi_wp2_with fail
      refine⟨trivial,(callsIn_wide.2 KN2.o).mono ?_⟩
      rintro e w2 ⟨rfl,hb2⟩
      have t2c':=(hb2.cell (p:=⟨w.heap.size+1,0,none⟩) (by show w.heap.size+1<_;omega)).trans ((HBa.o.cell (p:=⟨w.heap.size+1,0,none⟩) (by show w.heap.size+1<_;omega)).trans t2c)
      have t2f':=(hb2.frozen (p:=⟨w.heap.size+1,0,none⟩) (by show w.heap.size+1<_;omega)).trans ((HBa.o.frozen (p:=⟨w.heap.size+1,0,none⟩) (by show w.heap.size+1<_;omega)).trans t2f)
      clear t2c t2f
      gi_wp2_with fail
      refine⟨.int .i64 1,?_,aw (lf HS1.o (by unfold cq;rw[HPL.o];exact bO hlt HNL.o)),?_⟩
      ·simp[results,Tryz.f115,go_sem,World.cell?_setCell_same' _ _ _ (show(w2.cell? ⟨w.heap.size+1,0,none⟩).isSome=true from by rw[t2c'];rfl)]
      ·exact((aa HBr.o HBa.o).trans (hb2.mono (by have:=HBr.o.size;omega))).setCell (p:=⟨w.heap.size+1,0,none⟩) (Nat.le_succ _) _
     ·rw[hn,Bool.true_and]at hnl
      rw[hn]at KN
      have KN2:=zh KN
      cases hlt2:bI ln s.name
      ·rw[hlt2]at hnl hlq
       have HNL:=zh hnl
       clear hn hnl KN hlt2
       gi_wp2_with fail
       refine⟨trivial,(callsIn_wide.2 KN2.o).mono ?_⟩
       rintro e w2 ⟨rfl,hb2⟩
       have t2c':=(hb2.cell (p:=⟨w.heap.size+1,0,none⟩) (by show w.heap.size+1<_;omega)).trans ((HBa.o.cell (p:=⟨w.heap.size+1,0,none⟩) (by show w.heap.size+1<_;omega)).trans t2c)
       have t2f':=(hb2.frozen (p:=⟨w.heap.size+1,0,none⟩) (by show w.heap.size+1<_;omega)).trans ((HBa.o.frozen (p:=⟨w.heap.size+1,0,none⟩) (by show w.heap.size+1<_;omega)).trans t2f)
       have hbx:=(hb2.cell (p:=⟨wr.heap.size,0,none⟩) (by show wr.heap.size<_;omega)).trans HBOX.o
       simp only[List.getElem?_toArray,List.getElem?_cons_zero]at hbx
       clear t2c t2f
       gi_wp2_with fail
       refine⟨.int .i64 1,?_,aw (lf HS1.o (by unfold cq;rw[HPL.o];exact bO hlt HNL.o)),?_⟩
       ·simp[results,Tryz.f115,go_sem,World.cell?_setCell_same' _ _ _ (show(w2.cell? ⟨w.heap.size+1,0,none⟩).isSome=true from by rw[t2c'];rfl)]
       ·exact((aa HBr.o HBa.o).trans (hb2.mono (by have:=HBr.o.size;omega))).setCell (p:=⟨w.heap.size+1,0,none⟩) (Nat.le_succ _) _
      ·rw[hlt2]at hnl hlq
       have HNL:=zh hnl
       clear hn hnl KN hlt2
       gi_wp2_with fail
       refine⟨trivial,(callsIn_wide.2 KN2.o).mono ?_⟩
       rintro e w2 ⟨rfl,hb2⟩
       have hbx:=(hb2.cell (p:=⟨wr.heap.size,0,none⟩) (by show wr.heap.size<_;omega)).trans HBOX.o
       simp only[List.getElem?_toArray,List.getElem?_cons_zero]at hbx
       gi_wp2_with fail
       go_roundw
       case rel=>exact⟨k+1,by omega,by go_num,by rw[HLS.o],by rw[co,HA.o,HNL.o];rfl,hbw.trans ((HBa.o.mono hzr).trans (hb2.mono (by omega)))⟩
       case measure=>simp[intOf];omega
    ·have HN:=zh (show cq m.snaps=true from by unfold cq;rw[HPL.o,show pn=k from by omega];exact HA.o)
     clear HA
     gi_wp2_with fail
     refine⟨trivial,(callsIn_wide.2 (mm m.guest ⟨rA,rn,rc,sA,fn,sc,fA,fn,fc,pA,pn,pc⟩ wr)).mono ?_⟩
     rintro e wc ⟨rfl,hwc⟩
     gi_wp2_with fail
     obtain⟨rs,hrs1,hrs2⟩:=kJ w ⟨rA,rn,rc,sA,fn,sc,fA,fn,fc,pA,pn,pc⟩ m (λ_ _=>True) HI.o (λ_ _=>trivial)
     obtain⟨x0,hx0⟩:∃x0:{x:RV//dv w (λ_ _=>True) x},x0.1=⟨m.guest,rA,rn,rc,m.root⟩:=⟨⟨⟨m.guest,rA,rn,rc,m.root⟩,HI.o.root,hrn,trivial⟩,rfl⟩
     have hBx:Box wc wr.heap.size m.guest ⟨rA,rn,rc,sA,fn,sc,fA,fn,fc,pA,pn,pc⟩:=by rw[<-hwc];exact Box.new wr m.guest ⟨rA,rn,rc,sA,fn,sc,fA,fn,fc,pA,pn,pc⟩ 34
     have hzc:wr.heap.size<wc.heap.size:=by rw[<-hwc];simp
     have hbc:Below wr.heap.size wr wc:=by rw[<-hwc];exact ac _ _
     have HBc:=zh (aa HBr.o hbc)
     have hbw1c:Below w1.heap.size w1 wc:=hbw.trans (hbc.mono hzr)
     have t2cc:=(hbc.cell (p:=⟨w.heap.size+1,0,none⟩) (by show w.heap.size+1<_;omega)).trans t2c
     have t2fc:=(hbc.frozen (p:=⟨w.heap.size+1,0,none⟩) (by show w.heap.size+1<_;omega)).trans t2f
     have HT2c:=zh (And.intro t2cc t2fc)
     have HWC:=zh hwc
     clear hwc hbc t2c t2f t2cc t2fc b0 b1 b2 b3 b4 hbw
     apply wpIn_rangeFunc_ownF (F:=Fence.wide) (n:=8) (w0:=wc) rfl (by omega) (gf:=201) (lb:=#[.pointer (some ⟨wr.heap.size,0,none⟩)]) rfl trivial (enters_of func201 (by kernel_rfl) rfl)
      (js Fence.wide (8-1) trivial rfl (by omega) wr.heap.size w.heap.size m.guest ⟨rA,rn,rc,sA,fn,sc,fA,fn,fc,pA,pn,pc⟩ _ x0 (by rw[hx0];rfl) rs hpn wc (by omega) HBc.o.size hBx (hrs1.below HBc.o (Nat.le_refl _))) (λh k=>KeepB.t h k) (KeepB.b HBc.o.size (by omega)) (Below.refl _ _) (λ_=>rfl)
      (λpre W=>AllX (λx:{x:RV//dv w (λ_ _=>True) x}=>a7 x.1.g) pre/\Below wc.heap.size wc W)
      (λc pre W=>(c=.ret/\BadX (λx:{x:RV//dv w (λ_ _=>True) x}=>a7 x.1.g) pre/\W.cell? ⟨w.heap.size+1,0,none⟩=some (.int .i64 3))/\Below w.heap.size w W)
      (OwnFrom.and (ownFrom_pure _ _) (ownFrom_below (Nat.le_refl _) (Nat.le_refl _)))
      (λc=>OwnFrom.and (Own.from (λs A B row hs hg hr=>⟨hs.1,hs.2.1,cell_kept hs.2.2 hg hr⟩) _) (ownFrom_below (Nat.le_refl _) HBc.o.size))
      ⟨AllX.nil,Below.refl _ _⟩
     ·intro l x W K hK
      unfold RV.encs
      gi_wp2
      exact hK
     ·rintro l pre x W ⟨hI,hB⟩ _
      have t2c:=(hB.cell (p:=⟨w.heap.size+1,0,none⟩) (by show w.heap.size+1<_;omega)).trans HT2c.o.1
      have t2f:=(hB.frozen (p:=⟨w.heap.size+1,0,none⟩) (by show w.heap.size+1<_;omega)).trans HT2c.o.2
      have HII:=zh hI
      have HBW:=zh (HBc.o.trans (hB.mono HBc.o.size))
      clear hI
      by_cases hx1:x.1.g<0
      ·gi_wp2
       exact⟨KeepsOthers.setCell _ _ _,⟨rfl,BadX.snoc (by unfold a7;rw[decide_eq_false (by omega)];rfl),World.cell?_setCell_same' _ _ _ (by rw[t2c];rfl)⟩,HBW.o.setCell (p:=⟨w.heap.size+1,0,none⟩) (Nat.le_succ _) _⟩
      ·by_cases hx2:16<x.1.g
       ·gi_wp2
        exact⟨KeepsOthers.setCell _ _ _,⟨rfl,BadX.snoc (by unfold a7;rw[decide_eq_false (by omega:¬x.1.g<=16),Bool.and_false]),World.cell?_setCell_same' _ _ _ (by rw[t2c];rfl)⟩,HBW.o.setCell (p:=⟨w.heap.size+1,0,none⟩) (Nat.le_succ _) _⟩
       ·have hx2':x.1.g<=16:=by omega
        gi_wp2
        exact⟨KeepsOthers.refl _,⟨Below.refl _ _,rfl⟩,HII.o.snoc (by unfold a7;rw[decide_eq_true (by omega),decide_eq_true (by omega)];rfl),hB⟩
     ·rintro D ys W hD rfl ⟨hI,hB⟩ hK
      have HG:=zh (yh (by rw[hx0]) hrs2 hI)
      have HHK:=zh hK
      have hbwW:Below w1.heap.size w1 W:=hbw1c.trans (hB.mono (by omega))
      have hDW:D<W.heap.size:=lt_of_block hK
      have HBW:=zh (HBc.o.trans (hB.mono HBc.o.size))
      have HXW:=zh (HX1.o.keep hbwW (by omega))
      have t2c:=(hB.cell (p:=⟨w.heap.size+1,0,none⟩) (by show w.heap.size+1<_;omega)).trans HT2c.o.1
      have t2f:=(hB.frozen (p:=⟨w.heap.size+1,0,none⟩) (by show w.heap.size+1<_;omega)).trans HT2c.o.2
      have HT2W:=zh (And.intro t2c t2f)
      have hzW:=hbwW.size
      clear hK hI hB HT2c t2c t2f
      obtain⟨b0,b1,b2,b3,b4⟩:=HXW.o
      dsimp only at b0 b1 b2 b3 b4
      gi_wp2
      clear b0 b1 b2 b3 b4
      gi_loopw [79,10] (λi _ wq=>∃k3:Nat,k3<=fn/\i=.int .i64 k3/\(m.slots.take k3).all (λs=>s.table.all (aX m.slots))=true/\Below W.heap.size W wq) (λi _ _=>fn-(intOf i).toNat)
      case atStart=>exact⟨0,Nat.zero_le _,rfl,rfl,Below.refl _ _⟩
      case round=>
       obtain⟨k3,hk3,rfl,ha,hbq⟩:=hrel
       have HA:=zh ha
       clear ha
       obtain⟨b0,b1,b2,b3,b4⟩:=HXW.o.keep hbq (by omega)
       dsimp only at b0 b1 b2 b3 b4
       have HBr:=zh (aa HBW.o hbq)
       have t2c:=(hbq.cell (p:=⟨w.heap.size+1,0,none⟩) (by show w.heap.size+1<_;omega)).trans HT2W.o.1
       have t2f:=(hbq.frozen (p:=⟨w.heap.size+1,0,none⟩) (by show w.heap.size+1<_;omega)).trans HT2W.o.2
       have hKq:=zh ((hbq.block D hDW).trans HHK.o)
       have hzr:=hbq.size
       by_cases hlt3:k3<fn
       ·obtain⟨b,o,s,tA,tn,tc,rfl,hb,hx,c0,c1,c2,hsv⟩:=HI.o.slots.at_ (k:=k3) hlt3
        have c0':=(HBr.o.cell (p:=⟨b,o+k3*3,none⟩) hb).trans c0
        have c1':=(HBr.o.cell (p:=⟨b,o+k3*3+1,none⟩) hb).trans c1
        have c2':=(HBr.o.cell (p:=⟨b,o+k3*3+2,none⟩) hb).trans c2
        have hsz:(wr.alloc (.cells #[.int .i64 s.kind,.string s.data,.slice tA tn tc] 108)).heap.size=wr.heap.size+1:=by simp
        have HBa:=zh (ac wr (.cells #[.int .i64 s.kind,.string s.data,.slice tA tn tc] 108))
        have HBra:=zh (aa HBr.o HBa.o)
        have HC:=oS 168 (.pointer (some ⟨w.heap.size,0,none⟩)) (λe=> !aX m.slots e) tA tn tc w.heap.size s.table (wr.alloc (.cells #[.int .i64 s.kind,.string s.data,.slice tA tn tc] 108))
         (hsv.table.below HBra.o (Nat.le_refl _)) HBra.o.size (hsv.cap.1) (λ_ _=>by kernel_rfl)
         (λx W' hW'=>sD ⟨rA,rn,rc,some ⟨b,o,none⟩,fn,sc,fA,fn,fc,pA,pn,pc⟩ m w.heap.size x W' (HI.o.next (aa HBra.o hW')) ((HXW.o.keep ((hbq.trans (HBa.o.mono hzr)).trans (hW'.mono (by omega))) (by omega))))
        rw[lm]at HC
        have HX:=zh hx
        clear hx c0 c1 c2 hsv
        cases hae:s.table.all (aX m.slots)
        ·rw[hae]at HC
         have HCC:=zh HC
         have HAE:=zh hae
         clear HC hae
         gi_wp2_with fail
         refine⟨trivial,(callsIn_wide.2 HCC.o).mono ?_⟩
         rintro e w2 ⟨rfl,hb2⟩
         have t2c':=(hb2.cell (p:=⟨w.heap.size+1,0,none⟩) (by show w.heap.size+1<_;omega)).trans ((HBa.o.cell (p:=⟨w.heap.size+1,0,none⟩) (by show w.heap.size+1<_;omega)).trans t2c)
         have t2f':=(hb2.frozen (p:=⟨w.heap.size+1,0,none⟩) (by show w.heap.size+1<_;omega)).trans ((HBa.o.frozen (p:=⟨w.heap.size+1,0,none⟩) (by show w.heap.size+1<_;omega)).trans t2f)
         have hK2:=zh ((hb2.block D (by omega)).trans ((HBa.o.block D (by omega)).trans hKq.o))
         clear t2c t2f
         gi_wp2_with fail
         have hK':=(KeepsOthers.setCell w2 ⟨w.heap.size+1,0,none⟩ (.int .i64 1)).same D _ hK2.o rfl
         refine⟨by simp,.inl ⟨_,_,rfl,run_takeDeferred hK',?_⟩⟩
         have hc5:=cell_kept (World.cell?_setCell_same' w2 ⟨w.heap.size+1,0,none⟩ (.int .i64 1) (by rw[t2c'];rfl)) (grownBy_putObj' _ D (.deferred none)) (λr e=>by cases e;exact⟨_,hK',rfl⟩)
         refine⟨.int .i64 1,?_,aw (ph HS1.o HN.o HG.o (dA _ m.slots k3 s HX.o HAE.o)),?_⟩
         ·simp[results,Tryz.f115,go_sem,hc5]
         ·exact((HBra.o.trans (hb2.mono (by have:=HBr.o.size;omega))).setCell (p:=⟨w.heap.size+1,0,none⟩) (Nat.le_succ _) _).trans (belowK_b (w:=w) (Nat.le_refl _) _ D _ _ (by have:=HBc.o.size;omega) hK' rfl rfl)
        ·rw[hae]at HC
         have HCC:=zh HC
         have HAE:=zh hae
         clear HC hae
         gi_wp2_with fail
         refine⟨trivial,(callsIn_wide.2 HCC.o).mono ?_⟩
         rintro e w2 ⟨rfl,hb2⟩
         gi_wp2_with fail
         go_roundw
         case rel=>exact⟨k3+1,by omega,by go_num,by rw[bf _ m.slots k3 s HX.o,HA.o,HAE.o];rfl,hbq.trans ((HBa.o.mono hzr).trans (hb2.mono (by omega)))⟩
         case measure=>simp[intOf];omega
       ·have HT:=zh (show a8 m.slots=true from cP _ m.slots k3 (by rw[HSL.o];omega) HA.o)
        gi_wp2_with fail
        refine⟨trivial,(callsIn_wide.2 (mm m.guest ⟨rA,rn,rc,sA,fn,sc,fA,fn,fc,pA,pn,pc⟩ wr)).mono ?_⟩
        rintro e wd ⟨rfl,hwd⟩
        gi_wp2_with fail
        obtain⟨qs,hqs1,hqs2⟩:=kJ w ⟨rA,rn,rc,sA,fn,sc,fA,fn,fc,pA,pn,pc⟩ m (λg _=>a7 g=true) HI.o (λs hs=>by have:=HG.o;unfold aV at this;rw[Bool.and_eq_true,List.all_eq_true]at this;exact this.2 s hs)
        obtain⟨y0,hy0⟩:∃y0:{x:RV//dv w (λg _=>a7 g=true) x},y0.1=⟨m.guest,rA,rn,rc,m.root⟩:=⟨⟨⟨m.guest,rA,rn,rc,m.root⟩,HI.o.root,hrn,by have:=HG.o;unfold aV at this;rw[Bool.and_eq_true]at this;exact this.1⟩,rfl⟩
        have hBd:Box wd wr.heap.size m.guest ⟨rA,rn,rc,sA,fn,sc,fA,fn,fc,pA,pn,pc⟩:=by rw[<-hwd];exact Box.new wr m.guest ⟨rA,rn,rc,sA,fn,sc,fA,fn,fc,pA,pn,pc⟩ 34
        have hzd:wr.heap.size<wd.heap.size:=by rw[<-hwd];simp
        have hbd:Below wr.heap.size wr wd:=by rw[<-hwd];exact ac _ _
        have HBd:=zh (aa HBr.o hbd)
        have t2cc:=(hbd.cell (p:=⟨w.heap.size+1,0,none⟩) (by show w.heap.size+1<_;omega)).trans t2c
        have t2fc:=(hbd.frozen (p:=⟨w.heap.size+1,0,none⟩) (by show w.heap.size+1<_;omega)).trans t2f
        have HT2d:=zh (And.intro t2cc t2fc)
        have HXd:=zh ((HXW.o.keep hbq (by omega)).keep hbd (by omega))
        have HKd:=zh ((hbd.block D (by omega)).trans hKq.o)
        have hDd:D<wd.heap.size:=lt_of_block HKd.o
        have HRT:=zh (λ(g:Int) (A:Option Addr) (n c:Nat) (root:List Int) W (hb:Below w.heap.size w W) (hr:Rd W W.heap.size 1 A n (ah root)) (hn:n<=4611686018427387903) (g0:0<=g) (g16:g<=16)=>Ag ⟨rA,rn,rc,sA,fn,sc,fA,fn,fc,pA,pn,pc⟩ m g A n c root W (HI.o.next hb) hr hn HS1.o.slots g0 g16)
        clear hwd hbd t2c t2f t2cc t2fc b0 b1 b2 b3 b4 hbq HA
        apply wpIn_rangeFunc_ownF (F:=Fence.wide) (n:=8) (w0:=wd) rfl (by omega) (gf:=201) (lb:=#[.pointer (some ⟨wr.heap.size,0,none⟩)]) rfl trivial (enters_of func201 (by kernel_rfl) rfl)
         (js Fence.wide (8-1) trivial rfl (by omega) wr.heap.size w.heap.size m.guest ⟨rA,rn,rc,sA,fn,sc,fA,fn,fc,pA,pn,pc⟩ _ y0 (by rw[hy0];rfl) qs hpn wd (by omega) HBd.o.size hBd (hqs1.below HBd.o (Nat.le_refl _))) (λh k=>KeepB.t h k) (KeepB.b HBd.o.size (by omega)) (Below.refl _ _) (λ_=>rfl)
         (λpre W=>AllX (λx:{x:RV//dv w (λg _=>a7 g=true) x}=>rootFine m.slots x.1.g x.1.root) pre/\Below wd.heap.size wd W)
         (λc pre W=>(c=.ret/\BadX (λx:{x:RV//dv w (λg _=>a7 g=true) x}=>rootFine m.slots x.1.g x.1.root) pre/\W.cell? ⟨w.heap.size+1,0,none⟩=some (.int .i64 1))/\Below w.heap.size w W/\W.heap[D]? =some (.deferred (some [])))
         (OwnFrom.and (ownFrom_pure _ _) (ownFrom_below (Nat.le_refl _) (Nat.le_refl _)))
         (λc=>OwnFrom.and (Own.from (λs A B row hs hg hr=>⟨hs.1,hs.2.1,cell_kept hs.2.2 hg hr⟩) _) (OwnFrom.and (ownFrom_below (Nat.le_refl _) HBd.o.size) (λs A B row hs hg hr=>(hg.block D (lt_of_block hs) (λe=>by have:=(hr D e.symm).1;omega)).trans hs)))
         ⟨AllX.nil,Below.refl _ _⟩
        ·intro l x W K hK
         unfold RV.encs
         gi_wp2
         exact hK
        ·rintro l pre x W ⟨hI,hB⟩ _
         have t2c:=(hB.cell (p:=⟨w.heap.size+1,0,none⟩) (by show w.heap.size+1<_;omega)).trans HT2d.o.1
         have t2f:=(hB.frozen (p:=⟨w.heap.size+1,0,none⟩) (by show w.heap.size+1<_;omega)).trans HT2d.o.2
         have HKW:=zh ((hB.block D hDd).trans HKd.o)
         have hzW2:=hB.size
         obtain⟨b0,b1,b2,b3,b4⟩:=HXd.o.keep hB (by omega)
         dsimp only at b0 b1 b2 b3 b4
         have HII:=zh hI
         have HBW2:=zh (HBd.o.trans (hB.mono HBd.o.size))
         obtain⟨gg1,gg2⟩:=uV x.2.2.2
         have KR:=HRT.o x.1.g x.1.A x.1.n x.1.c x.1.root W HBW2.o ((x.2.1.below HBW2.o (Nat.le_refl _)).more HBW2.o.size) x.2.2.1 gg1 gg2
         clear hI gg1 gg2
         cases hrf:rootFine m.slots x.1.g x.1.root
         ·rw[hrf]at KR
          have KRR:=zh KR
          have HRF:=zh hrf
          clear KR hrf
          gi_wp2_with fail
          refine⟨trivial,(CallsIn.inRound l (callsIn_wide.2 KRR.o)).mono ?_⟩
          rintro e w2 ⟨rfl,hb2⟩
          have t2c':=(hb2.cell (p:=⟨w.heap.size+1,0,none⟩) (by show w.heap.size+1<_;omega)).trans t2c
          have t2f':=(hb2.frozen (p:=⟨w.heap.size+1,0,none⟩) (by show w.heap.size+1<_;omega)).trans t2f
          have HKW2:=zh ((hb2.block D (by omega)).trans HKW.o)
          clear t2c t2f
          gi_wp2
          exact⟨(jt hb2).trans (KeepsOthers.setCell _ _ _),⟨rfl,BadX.snoc HRF.o,World.cell?_setCell_same' _ _ _ (by rw[t2c'];rfl)⟩,(HBW2.o.trans (hb2.mono HBW2.o.size)).setCell (p:=⟨w.heap.size+1,0,none⟩) (Nat.le_succ _) _,(KeepsOthers.setCell w2 ⟨w.heap.size+1,0,none⟩ (.int .i64 1)).same D _ HKW2.o rfl⟩
         ·rw[hrf]at KR
          have KRR:=zh KR
          have HRF:=zh hrf
          clear KR hrf
          gi_wp2_with fail
          refine⟨trivial,(CallsIn.inRound l (callsIn_wide.2 KRR.o)).mono ?_⟩
          rintro e w2 ⟨rfl,hb2⟩
          gi_wp2
          exact⟨jt hb2,KeepB.of_below hb2 HBW2.o.size (by omega),HII.o.snoc HRF.o,hB.trans (hb2.mono hzW2)⟩
        ·rintro D2 ys W2 hD2 rfl ⟨hI,hB⟩ hK2
         have HR:=zh (AB (by rw[hy0]) (by rw[hy0]) hqs2 hI)
         have t2c:=(hB.cell (p:=⟨w.heap.size+1,0,none⟩) (by show w.heap.size+1<_;omega)).trans HT2d.o.1
         have t2f:=(hB.frozen (p:=⟨w.heap.size+1,0,none⟩) (by show w.heap.size+1<_;omega)).trans HT2d.o.2
         have HK1:=zh ((hB.block D hDd).trans HKd.o)
         have HK2:=zh hK2
         have HBW2:=zh (HBd.o.trans (hB.mono HBd.o.size))
         clear hI hK2
         gi_wp2
         have hK2':=(KeepsOthers.setCell W2 ⟨w.heap.size+1,0,none⟩ (.int .i64 0)).same D2 _ HK2.o rfl
         have hK1':=(KeepsOthers.setCell W2 ⟨w.heap.size+1,0,none⟩ (.int .i64 0)).same D _ HK1.o rfl
         refine⟨by simp,.inl ⟨_,_,rfl,run_takeDeferred hK2',?_⟩⟩
         have hc4:=cell_kept (World.cell?_setCell_same' W2 ⟨w.heap.size+1,0,none⟩ (.int .i64 0) (by rw[t2c];rfl)) (grownBy_putObj' _ D2 (.deferred none)) (λr e=>by cases e;exact⟨_,hK2',rfl⟩)
         have hK1'':=(World.putObj_heap_other (w:=W2.setCell ⟨w.heap.size+1,0,none⟩ (.int .i64 0)) (r:=D2) (k:=D) (o:=.deferred none) (by omega)).trans hK1'
         refine⟨by simp,.inl ⟨_,_,rfl,run_takeDeferred hK1'',?_⟩⟩
         have hc5:=cell_kept hc4 (grownBy_putObj' _ D (.deferred none)) (λr e=>by cases e;exact⟨_,hK1'',rfl⟩)
         refine⟨.int .i64 0,?_,aw (zV HS1.o HN.o HG.o HT.o HR.o),?_⟩
         ·simp[results,Tryz.f115,go_sem,hc5]
         ·exact((HBW2.o.setCell (p:=⟨w.heap.size+1,0,none⟩) (Nat.le_succ _) _).trans (belowK_b (w:=w) (Nat.le_refl _) _ D2 _ _ (by have:=HBd.o.size;omega) hK2' rfl rfl)).trans (belowK_b (w:=w) (Nat.le_refl _) _ D _ _ (by have:=HBc.o.size;omega) hK1'' rfl rfl)
        ·rintro D2 c pre W2 hD2 hpre ⟨⟨rfl,⟨x,hx,hbad⟩,hc⟩,hB,hK1⟩ hK2
         have HR:=zh (yi (by rw[hy0]) (by rw[hy0]) hqs2 (hpre.subset hx) hbad)
         gi_wp2
         refine⟨by simp,.inl ⟨_,_,rfl,run_takeDeferred hK2,?_⟩⟩
         have hc4:=cell_kept hc (grownBy_putObj' _ D2 (.deferred none)) (λr e=>by cases e;exact⟨_,hK2,rfl⟩)
         have hK1'':=(World.putObj_heap_other (w:=W2) (r:=D2) (k:=D) (o:=.deferred none) (by omega)).trans hK1
         refine⟨by simp,.inl ⟨_,_,rfl,run_takeDeferred hK1'',?_⟩⟩
         have hc5:=cell_kept hc4 (grownBy_putObj' _ D (.deferred none)) (λr e=>by cases e;exact⟨_,hK1'',rfl⟩)
         refine⟨.int .i64 1,?_,aw (m5 HS1.o HN.o HG.o HT.o HR.o),?_⟩
         ·simp[results,Tryz.f115,go_sem,hc5]
         ·exact(hB.trans (belowK_b (w:=w) (Nat.le_refl _) _ D2 _ _ (by have:=HBd.o.size;omega) hK2 rfl rfl)).trans (belowK_b (w:=w) (Nat.le_refl _) _ D _ _ (by have:=HBc.o.size;omega) hK1'' rfl rfl)
     ·rintro D c pre W hD hpre ⟨⟨rfl,⟨x,hx,hbad⟩,hc⟩,hB⟩ hK
      gi_wp2
      refine⟨by simp,.inl ⟨_,_,rfl,run_takeDeferred hK,?_⟩⟩
      have hc5:=cell_kept hc (grownBy_putObj' _ D (.deferred none)) (λr e=>by cases e;exact⟨_,hK,rfl⟩)
      refine⟨.int .i64 3,?_,aw (m4 HS1.o HN.o (uW (by rw[hx0]) hrs2 (hpre.subset hx) hbad)),hB.trans (belowK_b (w:=w) (Nat.le_refl _) W D _ _ (by have:=HBc.o.size;omega) hK rfl rfl)⟩
      simp[results,Tryz.f115,go_sem,hc5]
  ·have R:=zh (rG (m:=m) hS (by omega))
   have hor:(ar m.slots !=0)=true\/(ar m.slots=0/\((fn:Int) !=(sn:Int))=true):=by
    by_cases h0:ar m.slots=0
    ·exact .inr ⟨h0,by simp;omega⟩
    ·exact .inl (by simpa using h0)
   generalize ar m.slots=er at HE' hor
   clear hE h hsl hpl hfl hS
   rcases hor with hor|⟨rfl,hor⟩
   all_goals
    have HE:=zh HE'
    clear HE'
    gi_wp2_with fail
    rw[HWB.o]
    refine⟨trivial,(callsIn_wide.2 (HE.o _ HB0)).mono ?_⟩
    rintro e w1 ⟨rfl,hb1⟩
    obtain⟨b0,b1,b2,b3,b4⟩:=HX0.keep hb1 (by omega)
    dsimp only at b0 b1 b2 b3 b4
    have t2c:=(hb1.cell (p:=⟨w.heap.size+1,0,none⟩) (by show w.heap.size+1<_;omega)).trans ht2.1
    have t2f:=(hb1.frozen (p:=⟨w.heap.size+1,0,none⟩) (by show w.heap.size+1<_;omega)).trans ht2.2
    have HB:=zh (aa HB0 hb1)
    clear hb1 HX0 HB0 ht2
    gi_wp2_with fail
    refine⟨.int .i64 1,?_,aw R.o,HB.o.setCell (p:=⟨w.heap.size+1,0,none⟩) (Nat.le_succ _) _⟩
    simp[results,Tryz.f115,go_sem,World.cell?_setCell_same' _ _ _ (show(w1.cell? ⟨w.heap.size+1,0,none⟩).isSome=true from by rw[t2c];rfl)]
 ·have R:=zh (qx (ky (m:=m) (by omega)))
  have h1':sn<1\/(1<=sn/\40<sn)\/(1<=sn/\sn<=40/\3<pn):=by omega
  clear h hsl hpl hfl h1
  rcases h1' with h1|⟨h1,h2⟩|⟨h1,h2,h3⟩
  ·have g1:decide ((sn:Int)<1)=true:=by simp;omega
   gi_wp2_with fail
   refine⟨.int .i64 2,?_,aw R.o,?_⟩
   ·simp[results,Tryz.f115,go_sem]
   ·exact((Below.refl _ _).alloc (Nat.le_refl _) _).alloc (by simp) _
  ·gi_wp2_with fail
   refine⟨.int .i64 2,?_,aw R.o,?_⟩
   ·simp[results,Tryz.f115,go_sem]
   ·exact((Below.refl _ _).alloc (Nat.le_refl _) _).alloc (by simp) _
  ·gi_wp2_with fail
   refine⟨.int .i64 2,?_,aw R.o,?_⟩
   ·simp[results,Tryz.f115,go_sem]
   ·exact((Below.refl _ _).alloc (Nat.le_refl _) _).alloc (by simp) _
end Go.Proofs.YtdbneghfbkjinaaGreatDoor
