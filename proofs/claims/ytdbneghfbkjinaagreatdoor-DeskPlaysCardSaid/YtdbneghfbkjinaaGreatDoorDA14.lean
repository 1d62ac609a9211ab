/- Texts of the proof of deskPlays_holds: Counts, RCounts. Conditions: as each text says. -/
import Derived.Test.YtdbneghfbkjinaaGreatDoorDA1
import Derived.Test.YtdbneghfbkjinaaGreatDoorDA11
set_option maxRecDepth 100000
set_option maxHeartbeats 8000000
namespace Go.Proofs.YtdbneghfbkjinaaGreatDoor
section
open Go.Proofs.Tryz
open Go.RowKit Go.Shelf Sl
attribute [local go_sem] Oper.semAt_some
theorem dp {W:World} {a q:Addr} {v u:Value} (h:W.cell? q=some u) (hn:q.block≠a.block):(W.setCell a v).cell? q=some u:=
 (World.cell?_of_block (heap_setCell_other W a q.block v hn)).trans h
theorem KeepB.set {n₀ Bm b k:Nat} {W W':World} (h:KeepB n₀ Bm W W') (hn:n₀<=b) (hm:Bm≠b) (v:Value):KeepB n₀ Bm W (W'.setCell ⟨b,k,none⟩ v):=
 ⟨h.1.setCell (p:=⟨b,k,none⟩) hn v,(World.cell?_of_block (heap_setCell_other W' ⟨b,k,none⟩ Bm v hm)).trans h.2⟩
theorem KeepB.refl (n₀ Bm:Nat) (W:World):KeepB n₀ Bm W W:=⟨Below.refl _ _,rfl⟩
def nS (m:Img) (_:Int) (root:List Int):Prop:=root.length<=4/\ ∀t∈root,t=0\/aQ m.slots t=2
def gE {w:World} {Q:Int->List Int->Prop} (pre:List {x:RV//dv w Q x}):List Int:=(pre.map (·.1.root)).flatten
theorem u6 {w:World} {Q:Int->List Int->Prop} (pre:List {x:RV//dv w Q x}) (x:{x:RV//dv w Q x}):gE (pre++[x])=gE pre++x.1.root:=by simp[gE]
theorem AC {w:World} {m:Img} (pre:List {x:RV//dv w (nS m) x}):(gE pre).length<=pre.length*4:=by
 induction pre with
 |nil=>simp[gE]
 |cons a pre ih=>
  have:=a.2.2.2.1
  unfold gE at*
  rw[List.map_cons,List.flatten_cons,List.length_append,List.length_cons,Nat.add_mul];omega
theorem yj {w:World} {Q:Int->List Int->Prop} {m:Img} {x0:{x:RV//dv w Q x}} {rs:List {x:RV//dv w Q x}} (h0:x0.1.root=m.root) (hm:rs.map (λx=>(x.1.g,x.1.root))=m.snaps.map (λs=>(s.guest,s.root))):
  gE (x0::rs)=(am m).flatten:=by
 have:rs.map (·.1.root)=m.snaps.map (·.root):=by
  have:=congrArg (List.map Prod.snd) hm
  rwa [List.map_map,List.map_map]at this
 unfold gE am
 rw[List.map_cons,h0,this]
def CntAt (w wb:World) (n:Nat) (f:Nat->Nat) (W:World):Prop:=
 (RowB W (w.heap.size+1) (row n (λj=>(f j:Int)))/\W.cell? ⟨w.heap.size+1+1,0,none⟩=some (.slice (some ⟨w.heap.size+1,0,none⟩) n n))/\Below (w.heap.size+1) wb W
theorem CntAt.congr {w wb W:World} {n:Nat} {f g:Nat->Nat} (h:CntAt w wb n f W) (he:∀j,j<n->f j=g j):CntAt w wb n g W:=by
 refine⟨⟨?_,h.1.2⟩,h.2⟩
 have:=h.1.1
 rwa [cr (λj hj=>by rw[he j hj])]at this
theorem CntAt.set {w wb W:World} {n:Nat} {f:Nat->Nat} (h:CntAt w wb n f W) (k y:Nat):CntAt w wb n (λj=>if j=k then y else f j) (W.setCell ⟨w.heap.size+1,k,none⟩ (.int .i64 (y:Nat))):=by
 refine⟨⟨?_,dp h.1.2 (by show w.heap.size+1+1≠w.heap.size+1;omega)⟩,h.2.setCell (p:=⟨w.heap.size+1,k,none⟩) (Nat.le_refl _) _⟩
 have:=h.1.1.set k (y:Nat)
 rw[qy]at this
 rwa [cr (g:= λj=>(((λj=>if j=k then y else f j) j:Nat):Int)) (λj _=>by dsimp only;split<;>rfl)]at this
theorem iK (v:IV) (m:Img) (w:World) (h:ImgR w w.heap.size v m) (hc:CBd m) (hw:Wired m):
  Calls prog 116 #[.agg #[.int .i64 m.guest,.slice v.rA v.rn v.rc,.slice v.sA v.sn v.sc,.slice v.fA v.fn v.fc,.slice v.pA v.pn v.pc]] w (dJ w.heap.size 3 1 m.slots.length (ah (aM m)) w):=by
 obtain⟨rA,rn,rc,sA,sn,sc,fA,fn,fc,pA,pn,pc⟩:=v
 have hsl:m.slots.length=sn:=h.slen
 have hpl:m.snaps.length=pn:=h.plen
 have hrl:m.root.length=rn:=h.rlen
 have hsn1:1<=sn:=by rw[<-hsl];exact hc.one
 have hsn:sn<=40:=by rw[<-hsl];exact hc.slots
 have hpn:pn<=4:=by rw[<-hpl];exact hc.snaps
 have hrn:rn<=4:=by rw[<-hrl];exact hc.root
 dsimp only
 have HMK:=zh (dQ sn (by omega))
 obtain⟨rs,hrs1,hrs2⟩:=kJ w ⟨rA,rn,rc,sA,sn,sc,fA,fn,fc,pA,pn,pc⟩ m (nS m) h (λs hs=>⟨hc.roots s hs,hw.roots s.root (List.mem_cons_of_mem _ (List.mem_map.2 ⟨s,hs,rfl⟩))⟩)
 obtain⟨x0,hx0⟩:∃x0:{x:RV//dv w (nS m) x},x0.1=⟨m.guest,rA,rn,rc,m.root⟩:=⟨⟨⟨m.guest,rA,rn,rc,m.root⟩,h.root,by show rn<=_;omega,hc.root,hw.roots m.root (List.mem_cons_self ..)⟩,rfl⟩
 have HI:=zh h
 have HC:=zh hc
 have HW:=zh hw
 have HSL:=zh hsl
 have HX0:=zh hx0
 have HRS2:=zh hrs2
 clear h hc hw hsl hpl hrl hx0 hrs2
 have hmk:=HMK.o (w.alloc (.cells #[.int .i64 m.guest,.slice rA rn rc,.slice sA sn sc,.slice fA fn fc,.slice pA pn pc] 34))
 refine(callsIn_wide (n:=8)).1 ?_
 refine callsIn_of_wp_marks func116 rfl trivial ?_ rfl
 simp only[ntmps116,List.size_toArray,List.length_cons,List.length_nil,Nat.reduceAdd,Nat.reduceSub,Array.replicate_succ,Array.replicate_zero,List.push_toArray,List.append_toArray,List.nil_append,List.cons_append]
 obtain⟨wb,hwb⟩:∃wb,((w.alloc (.cells #[.int .i64 m.guest,.slice rA rn rc,.slice sA sn sc,.slice fA fn fc,.slice pA pn pc] 34)).alloc (.cells (ah (List.replicate sn 0)).toArray 3)).alloc (.cells #[.slice (some ⟨w.heap.size+1,0,none⟩) sn sn] 30)=wb:=⟨_,rfl⟩
 have HWB:=zh hwb
 have hz0:w.heap.size+1+1<wb.heap.size:=by rw[<-hwb];simp
 have HXb:Box wb w.heap.size m.guest ⟨rA,rn,rc,sA,sn,sc,fA,fn,fc,pA,pn,pc⟩:=by
  rw[<-hwb];exact((Box.new w m.guest ⟨rA,rn,rc,sA,sn,sc,fA,fn,fc,pA,pn,pc⟩ 34).keep (ac _ _) (by simp)).keep (ac _ _) (by simp;omega)
 have HRb:RowB wb (w.heap.size+1) (row sn (λ_=>0)):=by
  rw[rH,<-hwb]
  have:=RowB.new (w.alloc (.cells #[.int .i64 m.guest,.slice rA rn rc,.slice sA sn sc,.slice fA fn fc,.slice pA pn pc] 34)) (List.replicate sn 0)
  rw[World.size_alloc]at this
  exact this.keep (ac _ _) (by simp)
 have Ht3:wb.cell? ⟨w.heap.size+1+1,0,none⟩=some (.slice (some ⟨w.heap.size+1,0,none⟩) sn sn):=by
  rw[<-hwb]
  have:=cell_of_row _ _ 0 _ _ _ (heap_alloc_new ((w.alloc (.cells #[.int .i64 m.guest,.slice rA rn rc,.slice sA sn sc,.slice fA fn fc,.slice pA pn pc] 34)).alloc (.cells (ah (List.replicate sn 0)).toArray 3)) (.cells #[.slice (some ⟨w.heap.size+1,0,none⟩) sn sn] 30))
  simpa using this
 have HBb:Below w.heap.size w wb:=by rw[<-hwb];exact(((Below.refl _ _).alloc (Nat.le_refl _) _).alloc (by simp) _).alloc (by simp;omega) _
 clear hwb
 gi_wp2_with fail
 clear hmk
 rw[HWB.o]
 refine⟨trivial,(callsIn_wide.2 (mm m.guest ⟨rA,rn,rc,sA,sn,sc,fA,fn,fc,pA,pn,pc⟩ wb)).mono ?_⟩
 rintro e wc ⟨rfl,hwc⟩
 gi_wp2_with fail
 have hBx:Box wc wb.heap.size m.guest ⟨rA,rn,rc,sA,sn,sc,fA,fn,fc,pA,pn,pc⟩:=by rw[<-hwc];exact Box.new wb m.guest ⟨rA,rn,rc,sA,sn,sc,fA,fn,fc,pA,pn,pc⟩ 34
 have hzc:wb.heap.size<wc.heap.size:=by rw[<-hwc];simp
 have hbc:Below wb.heap.size wb wc:=by rw[<-hwc];exact ac _ _
 have HBc:=zh (aa HBb hbc)
 have HXc:=zh (HXb.keep hbc (by omega))
 have HRc:=zh (HRb.keep hbc (by omega))
 have Htc:=zh ((hbc.cell (p:=⟨w.heap.size+1+1,0,none⟩) (by show w.heap.size+1+1<_;omega)).trans Ht3)
 have hz3:w.heap.size+1+1<wb.heap.size:=by omega
 clear hwc hbc HXb HRb Ht3 HBb hz0
 apply wpIn_rangeFunc_ownF (F:=Fence.wide) (n:=8) (w0:=wc) rfl (by omega) (gf:=201) (lb:=#[.pointer (some ⟨wb.heap.size,0,none⟩)]) rfl trivial (enters_of func201 (by kernel_rfl) rfl)
  (js Fence.wide (8-1) trivial rfl (by omega) wb.heap.size w.heap.size m.guest ⟨rA,rn,rc,sA,sn,sc,fA,fn,fc,pA,pn,pc⟩ _ x0 (by rw[HX0.o];rfl) rs (by show pn<=_;omega) wc (by omega) HBc.o.size hBx (hrs1.below HBc.o (Nat.le_refl _))) (λh k=>KeepB.t h k) (KeepB.b HBc.o.size (by omega)) (Below.refl _ _) (λ_=>rfl)
  (λpre W=>CntAt w wc sn (bz m.slots (gE pre)) W)
  (λ_ _ _=>False)
  (OwnFrom.and (Own.from (λs A B rw_ hs hg hr=>⟨(grownBy_keeps_cells hg hr hs.1 rfl).trans hs.1,cell_kept hs.2 hg hr⟩) _) (ownFrom_below (by omega) (by omega)))
  (λ_ _ _ _ _ hs _ _=>hs)
  ⟨⟨by have:=HRc.o;rwa [cr (g:= λj=>((bz m.slots (gE (w:=w) (Q:=nS m) []) j:Nat):Int)) (λj _=>by rw[show gE (w:=w) (Q:=nS m) []=[]from rfl,rI];rfl)]at this,Htc.o⟩,Below.refl _ _⟩
 ·intro l x W K hK
  unfold RV.encs
  gi_wp2
  exact hK
 ·rintro l pre x W hI hlen
  have hfl:=AC pre
  have hfl20:(gE pre).length<=16:=by dsimp only at hlen;omega
  generalize hP:gE pre=P at hI hfl hfl20
  have HPP:=zh (show gE (pre++[x])=P++x.1.root from by rw[u6,hP])
  have HI0:=zh hI
  clear hI hfl hlen hP
  have hxr:=x.2.1
  have hxl:=x.2.2.2.1
  have hxq:=x.2.2.2.2
  generalize x.1.root=xr at hxr hxl hxq HPP
  generalize x.1.A=xA at hxr⊢
  generalize x.1.n=xn at hxr⊢
  generalize x.1.c=xc
  have HXR:=zh hxr
  have HXQ:=zh hxq
  have hxlen:xr.length=xn:=hxr.len
  have hxn4:xn<=4:=by omega
  have HXL:=zh hxlen
  clear hxr hxq hxlen hxl
  gi_wp2
  gi_loopw [20] (λi wq=>∃q:Nat,q<=xn/\i=.int .i64 q/\CntAt w wc sn (bz m.slots (P++xr.take q)) wq/\KeepsOthers W wq/\KeepB w.heap.size wb.heap.size W wq) (λi _=>xn-(intOf i).toNat)
  case atStart=>exact⟨0,Nat.zero_le _,rfl,by rw[List.take_zero,List.append_nil];exact HI0.o,KeepsOthers.refl _,KeepB.refl _ _ _⟩
  case round=>
   obtain⟨q,hq,rfl,hcn,hko,hkb⟩:=hrel
   have HCN:=zh hcn
   have HKO:=zh hko
   have HKB:=zh hkb
   have HBq:=zh (HBc.o.trans (hcn.2.mono (Nat.le_succ _)))
   obtain⟨b0,b1,b2,b3,b4⟩:=HXc.o.keep hcn.2 (Nat.lt_succ_self _)
   dsimp only at b0 b1 b2 b3 b4
   have t3c:=hcn.1.2
   clear hcn hko hkb
   by_cases hlt:q<xn
   ·obtain⟨b,o,t,rfl,hb,hx,hcell⟩:=HXR.o.at1 hlt
    have hcell':=(HBq.o.cell (p:=⟨b,o+q,none⟩) hb).trans hcell
    have htk:P++xr.take (q+1)=(P++xr.take q)++[t]:=by rw[List.take_add_one,hx,List.append_assoc];rfl
    have hpl:(P++xr.take q).length<=20:=by rw[List.length_append,List.length_take];omega
    have hq2:=HXQ.o t (List.mem_of_getElem? hx)
    generalize hp:P++xr.take q=p at HCN htk hpl
    have HTK:=zh htk
    have HPL:=zh hpl
    clear hx hcell htk hp hpl
    cases h0:(t==0)
    ·have hk2:(aQ m.slots t !=2)=false:=by
      rcases hq2 with hq2|hq2
      ·rw[hq2]at h0;exact absurd h0 (by decide)
      ·simp[hq2]
     obtain⟨k,s,rfl,hk1,hks,hkk⟩:=jQ hk2
     have hkl:k<sn:=by have:=(zl hks);have:=HSL.o;omega
     have hkN:=(aL hks).trans hkk
     have hV:=oL HW.o.tables (p:=p) hk1 (by have:=HSL.o;omega) hkN
     have hVle:=nd (l:=m.slots) (p:=p) (j:=k) HPL.o HC.o.slots HC.o.tables
     have hck:=HCN.o.1.1.cell (k:=k) (gr _ hkl)
     have hfk:=HCN.o.1.1.frozen k
     have HST:=zh (HCN.o.set k (bz m.slots p k+1))
     have kI0:(0:Int)<=(k:Int):=by omega
     have kI1:(k:Int)<(sn:Int):=by omega
     by_cases hpos:0<bt p (k:Nat)
     ·have HAG:=zh (oI (l:=m.slots) hk1 hpos)
      rw[<-hV]at hpos
      generalize bz m.slots p k=V at hV hVle hck HST hpos HAG
      have hV2:decide ((1:Int)<(V:Int)+1)=true:=by simp;omega
      clear hV hks hk2 hq2
      gi_wp2
      go_roundw
      case rel=>exact⟨q+1,by omega,by go_num,by rw[HTK.o];exact HST.o.congr (λj _=>(HAG.o j).symm),HKO.o.trans (KeepsOthers.setCell _ _ _),HKB.o.set (Nat.le_succ _) (by omega) _⟩
      case measure=>simp[intOf];omega
     ·obtain⟨b5,o5,s5,tA,tn,tc,he5,hb5,hx5,d0,d1,d2,hsv⟩:=HI.o.slots.at_ (k:=k) hkl
      rw[hks]at hx5
      injection hx5 with hx5
      subst hx5
      subst he5
      have HV0:=zh (show bt p (k:Nat)=0 from by omega)
      have HSTA:=zh (na (l:=m.slots) (p:=p) hk1)
      have hV0:bz m.slots p k=0:=by rw[hV];omega
      have HTN:=zh (db hks)
      have HKN:=zh hkN
      have d2':=(HBq.o.cell (p:=⟨b5,o5+k*3+2,none⟩) hb5).trans d2
      have htn:=hsv.table.len
      have htn4:=HC.o.tables s (List.mem_of_getElem? hks)
      have htncap:tn<=tc:=hsv.len
      have htccap:tc<=9223372036854775807:=hsv.cap.2
      have HSV:=zh hsv
      have HKS:=zh hks
      have d2s:=dp (a:=⟨w.heap.size+1,k,none⟩) (v:=.int .i64 1) d2' (by show b5≠w.heap.size+1;omega)
      have b2s:=dp (a:=⟨w.heap.size+1,k,none⟩) (v:=.int .i64 1) b2 (by show w.heap.size≠w.heap.size+1;omega)
      have t3s:=dp (a:=⟨w.heap.size+1,k,none⟩) (v:=.int .i64 1) t3c (by show w.heap.size+1+1≠w.heap.size+1;omega)
      rw[hV0]at hck HST
      have HST0:=zh (show CntAt w wc sn (cm m.slots p k 0) (wr.setCell ⟨w.heap.size+1,k,none⟩ (.int .i64 1))from HST.o.congr (λj _=>by have:=HSTA.o j;rw[hV0]at this;exact this))
      have htn4':tn<=4:=by omega
      clear hV hVle hks hk2 hq2 hpos hV0 HST HSTA d0 d1 d2 hsv htn htn4
      gi_wp2
      have HKO0:=zh (HKO.o.trans (KeepsOthers.setCell wr ⟨w.heap.size+1,k,none⟩ (.int .i64 1)))
      have HKB0:=zh (HKB.o.set (b:=w.heap.size+1) (k:=k) (Nat.le_succ _) (by omega) (.int .i64 1))
      clear HCN HKO HKB HBq b0 b1 b2 b3 b4 t3c hcell' hck hfk d2' d2s b2s t3s
      generalize wr.setCell ⟨w.heap.size+1,k,none⟩ (.int .i64 1)=wi at HST0 HKO0 HKB0⊢
      gi_loopw [44] (λi wq=>∃z:Nat,z<=tn/\i=.int .i64 z/\CntAt w wc sn (cm m.slots p k z) wq/\KeepsOthers W wq/\KeepB w.heap.size wb.heap.size W wq) (λi _=>tn-(intOf i).toNat)
      case atStart=>exact⟨0,Nat.zero_le _,rfl,HST0.o,HKO0.o,HKB0.o⟩
      case round=>
       clear HST0 HKO0 HKB0
       obtain⟨z,hz,rfl,hcn,hko,hkb⟩:=hrel
       have HCN:=zh hcn
       have HKO:=zh hko
       have HKB:=zh hkb
       have HBq:=zh (HBc.o.trans (hcn.2.mono (Nat.le_succ _)))
       have t3c:=hcn.1.2
       clear hcn hko hkb
       by_cases hltz:z<tn
       ·obtain⟨b6,o6,y,rfl,hb6,hx6,hcell6⟩:=HSV.o.table.at1 hltz
        have hcell6':=(HBq.o.cell (p:=⟨b6,o6+z,none⟩) hb6).trans hcell6
        have hxt:(aK m.slots k)[z]? =some y:=by rw[HTN.o];exact hx6
        by_cases hy:0<y
        ·have hyk:aQ m.slots y=1:=by
          have:=List.all_eq_true.1 (List.all_eq_true.1 HW.o.tables s (List.mem_of_getElem? HKS.o)) y (List.mem_of_getElem? hx6)
          rw[kI hy]at this
          simpa using this
         obtain⟨e,rfl⟩:=Int.eq_ofNat_of_zero_le (a:=y) (by omega)
         have he1:1<=e:=by omega
         have hel:e<sn:=by
          unfold aQ at hyk
          split at hyk
          ·rename_i hh;have:=HSL.o;omega
          ·omega
         have hU:=rK (l:=m.slots) (p:=p) (k:=k) (q:=z) (j:=e) HPL.o HC.o.slots HC.o.tables
         have hce:=HCN.o.1.1.cell (k:=e) (gr _ hel)
         have hfe:=HCN.o.1.1.frozen e
         have HST:=zh (HCN.o.set e (cm m.slots p k z e+1))
         have HSTP:=zh (oK (p:=p) hxt he1)
         generalize cm m.slots p k z e=U at hU hce HST HSTP
         have e0:(0:Int)<=(e:Int):=by omega
         have e1:(e:Int)<(sn:Int):=by omega
         clear hyk hxt hx6 hcell6
         gi_wp2
         go_roundw
         case rel=>exact⟨z+1,by omega,by go_num,HST.o.congr (λj _=>HSTP.o j),HKO.o.trans (KeepsOthers.setCell _ _ _),HKB.o.set (Nat.le_succ _) (by omega) _⟩
         case measure=>simp[intOf];omega
        ·have HSK:=zh (oJ (p:=p) hxt (by omega:y<=0))
         have hy':y<=0:=by omega
         clear hxt hx6 hcell6 hy
         gi_wp2
         go_roundw
         case rel=>exact⟨z+1,by omega,by go_num,HCN.o.congr (λj _=>HSK.o j),HKO.o,HKB.o⟩
         case measure=>simp[intOf];omega
       ·have HEN:=zh (λj=>qD (l:=m.slots) (p:=p) (q:=z) hk1 (by have:=HSL.o;omega) HKN.o HV0.o (by rw[HTN.o,HSV.o.table.len];omega) j)
        gi_wp2
        go_roundw
        case rel=>exact⟨q+1,by omega,by go_num,by rw[HTK.o];exact HCN.o.congr (λj _=>HEN.o j),HKO.o,HKB.o⟩
        case measure=>simp[intOf];omega
    ·have HT0:=zh (show t=0 from by simpa using h0)
     gi_wp2
     go_roundw
     case rel=>exact⟨q+1,by omega,by go_num,by rw[HTK.o,HT0.o];exact HCN.o.congr (λj _=>(qC _ _ _).symm),HKO.o,HKB.o⟩
     case measure=>simp[intOf];omega
   ·have hfin:xr.take q=xr:=List.take_of_length_le (by have:=HXL.o;omega)
    have HFI:=zh (show CntAt w wc sn (bz m.slots (P++xr)) wr from by have:=HCN.o;rwa [hfin]at this)
    clear hfin
    gi_wp2
    exact⟨HKO.o,HKB.o,by show CntAt w wc sn (bz m.slots (gE (pre++[x]))) wr;rw[HPP.o];exact HFI.o⟩
 ·rintro D ys W hD rfl hI hK
  have hall:=yj (by rw[HX0.o]) HRS2.o
  rw[hall]at hI
  have hfin:=hI.congr (λj hj=>rJ HW.o.tables (by have:=HSL.o;omega))
  have HFIN:=zh (show RowB W (w.heap.size+1) (aM m)from by rw[bN,HSL.o];exact hfin.1.1)
  have HBf:=zh (HBc.o.trans (hfin.2.mono (Nat.le_succ _)))
  have HLEN:=zh (show(aM m).length=sn from by rw[bN,gL,HSL.o])
  have t3c:=hI.1.2
  clear hI hall hfin
  gi_wp2
  refine⟨by simp,.inl ⟨_,_,rfl,run_takeDeferred hK,?_⟩⟩
  have hro:RowB (W.putObj D (.deferred none)) (w.heap.size+1) (aM m):=(World.putObj_heap_other (w:=W) (r:=D) (k:=w.heap.size+1) (o:=.deferred none) (by omega)).trans HFIN.o
  exact⟨_,results_tmp rfl _ _ _,some ⟨w.heap.size+1,0,none⟩,sn,by rw[HSL.o];rfl,by rw[HSL.o];exact hro.own (Nat.le_succ _) HLEN.o (by unfold maxLen;omega),HBf.o.trans (belowK_b (w:=w) (Nat.le_refl _) W D _ _ (by omega) hK rfl rfl),by rw[HSL.o];exact Nat.le_refl _,by unfold maxLen;omega⟩
 ·rintro D c pre W _ _ h _
  exact h.elim
end
section
open Go.Proofs.Tryz
open Go.RowKit Sl
def lD (m:Img) (k j:Nat):Int:=if 1<=j/\j<k then(ax (am m) j:Int)else 0
def dg (m:Img) (k i j:Nat):Int:=
 if j=0 then 0 else if j<k then(cM m.slots (am m) j:Int)else if j=k then(ax (am m) k+cF m.slots (am m) k i:Nat)else(ax (am m) j:Int)
theorem u7 (m:Img) (k:Nat) (hk:1<=k) (j:Nat):(if j=k then((ax (am m) k:Nat):Int)else lD m k j)=lD m (k+1) j:=by
 unfold lD
 by_cases h:j=k
 ·subst h;rw[if_pos rfl,if_pos (by omega)]
 ·rw[if_neg h]
  by_cases h2:1<=j/\j<k
  ·rw[if_pos h2,if_pos (by omega)]
  ·rw[if_neg h2,if_neg (by omega)]
theorem u9 (m:Img) (j:Nat):lD m 1 j=0:=by unfold lD;rw[if_neg (by omega)]
theorem Dh (m:Img) (n j:Nat) (hj:j<n):lD m n j=dg m 1 1 j:=by
 unfold lD dg
 by_cases h0:j=0
 ·rw[if_neg (by omega),if_pos h0]
 ·rw[if_pos (by omega),if_neg h0,if_neg (by omega)]
  by_cases h1:j=1
  ·subst h1;rw[if_pos rfl,jN];rfl
  ·rw[if_neg h1]
theorem va (m:Img) (k i:Nat) (hk:1<=k) (hi:1<=i) (j:Nat):(if j=k then((ax (am m) k+cF m.slots (am m) k i+aN m.slots (am m) k i:Nat):Int)else dg m k i j)=dg m k (i+1) j:=by
 unfold dg
 by_cases h:j=k
 ·subst h;rw[if_pos rfl,if_neg (by omega),if_neg (by omega),if_pos rfl,m9 _ _ _ _ hi];congr 1;omega
 ·rw[if_neg h]
  by_cases h0:j=0
  ·rw[if_pos h0,if_pos h0]
  ·rw[if_neg h0,if_neg h0,if_neg h,if_neg h]
theorem vd (m:Img) (k:Nat) (hk:1<=k) (h1:br m.slots k=1) (j:Nat):dg m k m.slots.length j=dg m (k+1) 1 j:=by
 unfold dg
 by_cases h0:j=0
 ·rw[if_pos h0,if_pos h0]
 ·rw[if_neg h0,if_neg h0]
  by_cases h:j<k
  ·rw[if_pos h,if_pos (by omega)]
  ·rw[if_neg h]
   by_cases h2:j=k
   ·subst h2;rw[if_pos rfl,if_pos (by omega),eH hk h1]
   ·rw[if_neg h2,if_neg (by omega)]
    by_cases h3:j=k+1
    ·subst h3;rw[if_pos rfl,jN];rfl
    ·rw[if_neg h3]
theorem ve (m:Img) (k:Nat) (hk:1<=k) (h1:br m.slots k≠1) (j:Nat):dg m k 1 j=dg m (k+1) 1 j:=by
 unfold dg
 by_cases h0:j=0
 ·rw[if_pos h0,if_pos h0]
 ·rw[if_neg h0,if_neg h0]
  by_cases h:j<k
  ·rw[if_pos h,if_pos (by omega)]
  ·rw[if_neg h]
   by_cases h2:j=k
   ·subst h2;rw[if_pos rfl,if_pos (by omega),bV hk h1,jN];rfl
   ·rw[if_neg h2,if_neg (by omega)]
    by_cases h3:j=k+1
    ·subst h3;rw[if_pos rfl,jN];rfl
    ·rw[if_neg h3]
theorem yk (m:Img) (n j:Nat) (hj:j<n):dg m n 1 j=(cM m.slots (am m) j:Int):=by
 unfold dg
 by_cases h0:j=0
 ·rw[if_pos h0,h0];rfl
 ·rw[if_neg h0,if_pos hj]
theorem AD (m:Img) (k i:Nat) (hk:1<=k):dg m k i k=((ax (am m) k+cF m.slots (am m) k i:Nat):Int):=by
 unfold dg;rw[if_neg (by omega),if_neg (by omega),if_pos rfl]
theorem yl (m:Img) (k i j:Nat) (hj:1<=j) (h1:br m.slots k=1) (h2:br m.slots j=2):dg m k i j=(ax (am m) j:Int):=by
 have hne:j≠k:=by rintro rfl;omega
 unfold dg;rw[if_neg (by omega)]
 by_cases h:j<k
 ·rw[if_pos h,bV hj (by omega)]
 ·rw[if_neg h,if_neg hne]
theorem nT (m:Img) (k i:Nat) (hi:1<=i) (h:aN m.slots (am m) k i=0) (j:Nat):dg m k i j=dg m k (i+1) j:=by
 unfold dg;rw[m9 _ _ _ _ hi,h,Nat.add_zero]
theorem vf {l:List Slot} {ls:List (List Int)} {n k:Nat} {s:Slot} (hs:l[k]? =some s) (h2:s.kind=2) (h:0<ax ls k):aN l ls n k=bt s.table n:=by
 unfold aN;rw[aL hs,db hs,if_pos ⟨h2,h⟩]
theorem pH {l:List Slot} {ls:List (List Int)} {n k:Nat} (h:¬(br l k=2/\0<ax ls k)):aN l ls n k=0:=by unfold aN;rw[if_neg h]
theorem mL (v:IV) (m:Img) (w:World) (h:ImgR w w.heap.size v m) (hc:CBd m):
  Calls prog 144 #[.agg #[.int .i64 m.guest,.slice v.rA v.rn v.rc,.slice v.sA v.sn v.sc,.slice v.fA v.fn v.fc,.slice v.pA v.pn v.pc]] w (dJ w.heap.size 3 1 m.slots.length (ah (aM m)) w):=by
 obtain⟨rA,rn,rc,sA,sn,sc,fA,fn,fc,pA,pn,pc⟩:=v
 have hsl:m.slots.length=sn:=h.slen
 have hpl:m.snaps.length=pn:=h.plen
 have hrl:m.root.length=rn:=h.rlen
 have hsn1:1<=sn:=by rw[<-hsl];exact hc.one
 have hsn:sn<=40:=by rw[<-hsl];exact hc.slots
 have hpn:pn<=4:=by rw[<-hpl];exact hc.snaps
 have hrn:rn<=4:=by rw[<-hrl];exact hc.root
 dsimp only
 have hmk:=dQ sn (by omega)
 have HX0:=Box.new w m.guest ⟨rA,rn,rc,sA,sn,sc,fA,fn,fc,pA,pn,pc⟩ 34
 obtain⟨w0,hw0⟩:∃w0,w.alloc (.cells #[.int .i64 m.guest,.slice rA rn rc,.slice sA sn sc,.slice fA fn fc,.slice pA pn pc] 34)=w0:=⟨_,rfl⟩
 have hz0:w0.heap.size=w.heap.size+1:=by rw[<-hw0];simp
 obtain⟨wb,hwb⟩:∃wb,w0.alloc (.cells (ah (List.replicate sn 0)).toArray 3)=wb:=⟨_,rfl⟩
 have HB0:Below w.heap.size w w0:=by rw[<-hw0];exact ac _ _
 have hb01:Below w0.heap.size w0 wb:=by rw[<-hwb];exact ac _ _
 have HXb:Box wb w.heap.size m.guest ⟨rA,rn,rc,sA,sn,sc,fA,fn,fc,pA,pn,pc⟩:=by
  rw[<-hw0]at hb01;exact HX0.keep hb01 (by simp)
 have HRb:RowB wb (w.heap.size+1) (row sn (lD m 1)):=by
  rw[cr (g:= λ_=>0) (λj _=>u9 m j),rH,<-hwb,<-hz0];exact RowB.new w0 _
 have HBb:=zh (HB0.trans (hb01.mono (by omega)))
 have HW0:=zh hw0
 have HWB:=zh hwb
 have HZ0:=zh hz0
 have HI:=zh h
 have HSL:=zh hsl
 have HPL:=zh hpl
 have hmk0:=hmk w0
 rw[hwb]at hmk0
 have HMK:=zh hmk0
 have HC:=zh hc
 clear hmk0 hmk hwb hw0 hz0 HX0 hb01 HB0 h hsl hpl hrl hc
 have hmk:∀W,W=w0->(Instr.makeSlice 30 (.int .i64 (sn:Nat)) (.int .i64 (sn:Nat))).run prog W=.ok (.slice (some ⟨w.heap.size+1,0,none⟩) sn sn) wb:=by
  rintro W rfl;rw[<-HZ0.o];exact HMK.o
 have hmk':=hmk _ HW0.o
 clear hmk
 go_enter func144,ntmps144
 go_wp2_with fail
 clear hmk'
 go_loopw [4,5,6] (λi _ _ wr=>∃k:Nat,1<=k/\k<=sn/\i=.int .i64 k/\RowB wr (w.heap.size+1) (row sn (lD m k))/\Box wr w.heap.size m.guest ⟨rA,rn,rc,sA,sn,sc,fA,fn,fc,pA,pn,pc⟩/\Below w.heap.size w wr) (λi _ _ _=>sn-(intOf i).toNat)
 case atStart=>exact⟨1,Nat.le_refl _,hsn1,rfl,HRb,HXb,HBb.o⟩
 case round=>
  clear HRb HXb
  obtain⟨k,hk1,hk,rfl,hR,hX,hB⟩:=hrel
  have HR:=zh hR
  have HX:=zh hX
  have HB:=zh hB
  obtain⟨b0,b1,b2,b3,b4⟩:=hX
  dsimp only at b0 b1 b2 b3 b4
  clear hR hB
  by_cases hlt:k<sn
  ·have KT:=nB rA rn rc w.heap.size m.root (k:Nat) wr (HI.o.root.below HB.o (Nat.le_refl _)) (by omega)
   have hb1:=fw m.root (k:Nat)
   have hb2:=HC.o.root
   have hb3:bt m.root (k:Nat)<=4:=by omega
   have KTT:=zh KT
   clear KT hb1 hb2
   go_wp2_with fail
   refine KTT.o.mono ?_
   rintro e w' ⟨rfl,rfl⟩
   go_wp2_with fail
   go_loop [5,6] (λt i=>∃q:Nat,q<=pn/\i=.int .i64 q/\t=.int .i64 (ax (m.root::(m.snaps.take q).map (·.root)) (k:Nat):Nat)) (λ_ i=>pn-(intOf i).toNat)
   case atStart=>exact⟨0,Nat.zero_le _,rfl,by rw[List.take_zero,List.map_nil,cE]⟩
   case round=>
    obtain⟨q,hq,rfl,rfl⟩:=hrel
    have hbq:=HC.o.toldAll_le q (k:Nat)
    by_cases hltq:q<pn
    ·obtain⟨b,o,s,tA,tn,tc,rfl,hb,hx,c0,c1,c2,hsv⟩:=HI.o.snaps.at_ (k:=q) hltq
     have c2':=(HB.o.cell (p:=⟨b,o+q*3+2,none⟩) hb).trans c2
     have KT:=nB tA tn tc w.heap.size s.root (k:Nat) wr (hsv.root.below HB.o (Nat.le_refl _)) (hsv.cap.1)
     have hts:=fw s.root (k:Nat)
     have hts2:=HC.o.roots s (List.mem_of_getElem? hx)
     have hts3:bt s.root (k:Nat)<=4:=by omega
     have hst:m.snaps.take (q+1)=m.snaps.take q++[s]:=by rw[List.take_add_one,hx];rfl
     have HST:=zh (show ax (m.root::(m.snaps.take (q+1)).map (·.root)) (k:Nat)=ax (m.root::(m.snaps.take q).map (·.root)) (k:Nat)+bt s.root (k:Nat)from by
      rw[hst,List.map_append,<-List.cons_append];exact qz _ _ _)
     have KTT:=zh KT
     clear KT hts hts2 hst hx c0 c1 c2 hsv
     generalize ax (m.root::(m.snaps.take q).map (·.root)) (k:Nat)=ta at*
     generalize bt s.root (k:Nat)=tb at*
     go_wp2_with fail
     refine KTT.o.mono ?_
     rintro e w' ⟨rfl,rfl⟩
     go_wp2_with fail
     go_round
     case rel=>exact⟨q+1,by omega,by go_num,by rw[HST.o];go_num⟩
     case measure=>simp[intOf];omega
    ·have hall:=mF m (q:=q) (by rw[HPL.o];omega)
     rw[hall]at hbq⊢
     have hcell:=HR.o.cell (k:=k) (gr _ hlt)
     have hfz:=HR.o.frozen k
     have HS:=zh ((HR.o.set k (ax (am m) (k:Nat):Nat)))
     have HXS:=zh (λv=>show Box (wr.setCell ⟨w.heap.size+1,k,none⟩ v) w.heap.size m.guest ⟨rA,rn,rc,sA,sn,sc,fA,fn,fc,pA,pn,pc⟩from HX.o.keep ((Below.refl (w.heap.size+1) wr).setCell (p:=⟨w.heap.size+1,k,none⟩) (Nat.le_refl _) v) (by omega))
     have HBS:=zh (λv=>HB.o.setCell (p:=⟨w.heap.size+1,k,none⟩) (Nat.le_succ _) v)
     clear hall
     generalize hta:ax (am m) (k:Nat)=ta at*
     have HTA:=zh hta
     clear hta
     go_wp2_with fail
     go_roundw
     case rel=>exact⟨k+1,by omega,by omega,by go_num,by
      have:=HS.o
      rw[qy]at this
      rw[<-HTA.o]at this⊢
      rwa [cr (λj _=>u7 m k hk1 j)]at this,HXS.o _,HBS.o _⟩
     case measure=>simp[intOf];omega
  ·obtain rfl:k=sn:=by omega
   have HR1:=zh (show RowB wr (w.heap.size+1) (row k (dg m 1 1))from by have:=HR.o;rwa [cr (λj hj=>Dh m k j hj)]at this)
   clear HR hlt hk1 hk
   go_wp2_with fail
   clear b0 b1 b2 b3 b4
   go_loopw [7,8] (λi _ wq=>∃p:Nat,1<=p/\p<=k/\i=.int .i64 p/\RowB wq (w.heap.size+1) (row k (dg m p 1))/\Box wq w.heap.size m.guest ⟨rA,rn,rc,sA,k,sc,fA,fn,fc,pA,pn,pc⟩/\Below w.heap.size w wq) (λi _ _=>k-(intOf i).toNat)
   case atStart=>exact⟨1,Nat.le_refl _,hsn1,rfl,HR1.o,HX.o,HB.o⟩
   case round=>
    clear HR1 HX HB
    obtain⟨p,hp1,hp,rfl,hR,hX,hB⟩:=hrel
    have HR:=zh hR
    have HX:=zh hX
    have HB:=zh hB
    obtain⟨b0,b1,b2,b3,b4⟩:=hX
    dsimp only at b0 b1 b2 b3 b4
    clear hR hB
    by_cases hlt:p<k
    ·obtain⟨b,o,s,tA,tn,tc,rfl,hb,hx,c0,c1,c2,hsv⟩:=HI.o.slots.at_ (k:=p) hlt
     have c0':=(HB.o.cell (p:=⟨b,o+p*3,none⟩) hb).trans c0
     have hkn:=aL hx
     clear hx c0 c1 c2 hsv
     cases hk1:(s.kind !=1)
     ·have hkd:br m.slots p=1:=by rw[hkn];simpa using hk1
      have HKD:=zh hkd
      clear hkd hkn
      go_wp2_with fail
      clear b0 b1 b2 b3 b4 c0'
      obtain⟨W1,hW1⟩:∃W1:World,W1=wr:=⟨_,rfl⟩
      rw[<-hW1]at HR HX HB⊢
      clear hW1
      go_loopw [8] (λi wq=>∃q:Nat,1<=q/\q<=k/\i=.int .i64 q/\RowB wq (w.heap.size+1) (row k (dg m p q))/\Box wq w.heap.size m.guest ⟨rA,rn,rc,some ⟨b,o,none⟩,k,sc,fA,fn,fc,pA,pn,pc⟩/\Below w.heap.size w wq) (λi _=>k-(intOf i).toNat)
      case atStart=>exact⟨1,Nat.le_refl _,hsn1,rfl,HR.o,HX.o,HB.o⟩
      case round=>
       clear HR HX HB
       obtain⟨q,hq1,hq,rfl,hR,hX,hB⟩:=hrel
       have HR:=zh hR
       have HX:=zh hX
       have HB:=zh hB
       obtain⟨b0,b1,b2,b3,b4⟩:=hX
       dsimp only at b0 b1 b2 b3 b4
       clear hR hB
       by_cases hltq:q<k
       ·obtain⟨b',o',s2,tA2,tn2,tc2,he',hb2,hx2,d0,d1,d2,hsv2⟩:=HI.o.slots.at_ (k:=q) hltq
        simp only[Option.some.injEq,Addr.mk.injEq,and_true]at he'
        obtain⟨rfl,rfl⟩:=he'
        have d0':=(HB.o.cell (p:=⟨b,o+q*3,none⟩) hb).trans d0
        have d2':=(HB.o.cell (p:=⟨b,o+q*3+2,none⟩) hb).trans d2
        have hkq:=aL hx2
        cases hk2:(s2.kind==2)
        ·have HNO:=zh (pH (l:=m.slots) (ls:=am m) (n:=p) (k:=q) (by rw[hkq];simp at hk2;omega))
         clear hkq hx2 d0 d1 d2 hsv2
         go_wp2_with fail
         go_roundw
         case rel=>exact⟨q+1,by omega,by omega,by go_num,by have:=HR.o;rwa [cr (λj _=>nT m p q hq1 HNO.o j)]at this,HX.o,HB.o⟩
         case measure=>simp[intOf];omega
        ·have hk2':s2.kind=2:=by simpa using hk2
         have hval:=yl m p q q hq1 HKD.o (hkq.trans hk2')
         have hcq:=HR.o.cell (k:=q) (gr _ hltq)
         rw[hval]at hcq
         by_cases hpos:0<ax (am m) (q:Nat)
         ·have hTB:=vf (n:=p) hx2 hk2' hpos
          have hcp:=HR.o.cell (k:=p) (gr _ hlt)
          rw[AD m p q hp1]at hcp
          have hfp:=HR.o.frozen p
          have KT:=nB tA2 tn2 tc2 w.heap.size s2.table (p:Nat) wr.drew (hsv2.table.below (zb HB.o 1) (Nat.le_refl _)) (hsv2.cap.1)
          have hb1:=HC.o.all_le (p:Nat)
          have hb2:=HC.o.sumTo_le p q (by omega)
          have hb3:=fw s2.table (p:Nat)
          have hb4:=HC.o.tables s2 (List.mem_of_getElem? hx2)
          have hstep:= λj=>va m p q hp1 hq1 j
          rw[hTB]at hstep
          obtain⟨V,hV⟩:∃V,ax (am m) (p:Nat)+cF m.slots (am m) p q=V:=⟨_,rfl⟩
          have hV180:V<=180:=by omega
          rw[hV]at hcp hstep
          generalize bt s2.table (p:Nat)=T at KT hb3 hstep
          have hT4:T<=4:=by omega
          generalize ax (am m) (q:Nat)=U at hcq hpos
          have hposI:((0:Int)<((U:Nat):Int)):=by omega
          have hposB:decide ((0:Int)<((U:Nat):Int))=true:=by simp[hpos]
          have p0:(0:Int)<=(p:Int):=by omega
          have p1:(p:Int)<(k:Int):=by omega
          have q0:(0:Int)<=(q:Int):=by omega
          have q1:(q:Int)<(k:Int):=by omega
          have HS:=zh (show RowB (wr.drew.setCell ⟨w.heap.size+1,p,none⟩ (.int .i64 ((V+T:Nat):Int))) (w.heap.size+1) (row k (dg m p (q+1)))from by
           have:=(show RowB wr.drew (w.heap.size+1) _ from HR.o).set p ((V+T:Nat):Int)
           rwa [qy,cr (λj _=>hstep j)]at this)
          have HXS:=zh (λv=>show Box (wr.drew.setCell ⟨w.heap.size+1,p,none⟩ v) w.heap.size m.guest ⟨rA,rn,rc,some ⟨b,o,none⟩,k,sc,fA,fn,fc,pA,pn,pc⟩from HX.o.keep ((zb (Below.refl (w.heap.size+1) wr) 1).setCell (p:=⟨w.heap.size+1,p,none⟩) (Nat.le_refl _) v) (by omega))
          have HBS:=zh (λv=>(show Below w.heap.size w wr.drew from zb HB.o 1).setCell (p:=⟨w.heap.size+1,p,none⟩) (Nat.le_succ _) v)
          have KTT:=zh KT
          clear KT hb1 hb2 hb3 hb4 hx2 d0 d1 d2 hsv2 hkq hval hTB hstep hV
          go_wp2_with fail
          refine wp_region_still_tail 16 (by kernel_rfl) (by kernel_rfl) ?_
          simp only[List.take_succ_cons,List.take_zero,List.drop_succ_cons,List.drop_zero]
          repeat still_step
          refine wpStill_step (λK hK=>?_)
          go_simp
          refine⟨_,KTT.o.mono (λe w' h=>⟨h.1,h.2.symm⟩),hK _ ?_⟩
          clear hK K
          repeat still_step
          refine wpStill_nil ?_
          go_wp2_with fail
          go_roundw
          case rel=>exact⟨q+1,by omega,by omega,by go_num,HS.o,HXS.o _,HBS.o _⟩
          case measure=>simp[intOf];omega
         ·have HNO:=zh (pH (l:=m.slots) (ls:=am m) (n:=p) (k:=q) (by omega))
          have hz:ax (am m) (q:Nat)=0:=by omega
          rw[hz]at hcq
          clear hkq hx2 d0 d1 d2 hsv2 hval hz hpos
          go_wp2_with fail
          go_roundw
          case rel=>exact⟨q+1,by omega,by omega,by go_num,by have:=HR.o;rwa [cr (λj _=>nT m p q hq1 HNO.o j)]at this,HX.o,HB.o⟩
          case measure=>simp[intOf];omega
       ·obtain rfl:q=k:=by omega
        have hnx:∀j,dg m p q j=dg m (p+1) 1 j:= λj=>by have:=vd m p hp1 HKD.o j;rwa [HSL.o]at this
        have HNX:=zh (show RowB wr (w.heap.size+1) (row q (dg m (p+1) 1))from by have:=HR.o;rwa [cr (λj _=>hnx j)]at this)
        clear hnx
        go_wp2_with fail
        go_roundw
        case rel=>exact⟨p+1,by omega,by omega,by go_num,HNX.o,HX.o,HB.o⟩
        case measure=>simp[intOf];omega
     ·have HKD:=zh (show br m.slots p≠1 from by rw[hkn];simpa using hk1)
      clear hkn
      go_wp2_with fail
      go_roundw
      case rel=>exact⟨p+1,by omega,by omega,by go_num,by have:=HR.o;rwa [cr (λj _=>ve m p hp1 HKD.o j)]at this,HX.o,HB.o⟩
      case measure=>simp[intOf];omega
    ·obtain rfl:p=k:=by omega
     have HEND:=zh (show RowB wr (w.heap.size+1) (aM m)from by
      have:=HR.o
      rw[cr (λj hj=>yk m p j hj)]at this
      rw[bN,HSL.o];exact this)
     have HLEN:=zh (show(aM m).length=p from by rw[bN,gL,HSL.o])
     go_wp2_with fail
     go_ret
     exact⟨some ⟨w.heap.size+1,0,none⟩,p,by rw[HSL.o];rfl,by rw[HSL.o];exact HEND.o.own (Nat.le_succ _) HLEN.o (by unfold maxLen;omega),HB.o,by rw[HSL.o];exact Nat.le_refl _,by unfold maxLen;omega⟩
end
end Go.Proofs.YtdbneghfbkjinaaGreatDoor
