/- Texts of the proof of deskPlays_holds: VWrite. Conditions: as each text says. -/
import Derived.Test.YtdbneghfbkjinaaGreatDoorDA1
import Derived.Test.YtdbneghfbkjinaaGreatDoorDA18
set_option maxRecDepth 100000
set_option maxHeartbeats 1000000
namespace Go.Proofs.YtdbneghfbkjinaaGreatDoor
open Go.Proofs.Tryz
open Go.RowKit Sl
theorem xx {w:World} {base n c:Nat} {A:Option Addr} {l:List UInt8} (ho:w.ownsRow base 5 1 (.slice A n c) n (u8s l)) (hn:l≠[]):(convert 39 9 (.slice A n c)).run prog w=.ok (.string (ofL l)) w:=by
 have hl:l.length=n:=by have:=ho.1;rw[Cv]at this;omega
 have h0:0<n:=by
  rcases Nat.eq_zero_or_pos n with h|h
  ·exact absurd (List.eq_nil_of_length_eq_zero (by omega)) hn
  ·exact h
 obtain⟨b,rfl,_,_⟩:=bK ho h0
 subst hl
 refine run_convert_bytes_back w 39 9 5 ⟨b,0,none⟩ c l underlying39 underlying5 underlying9 λj hj=>?_
 have:=ho.cells (g:=b) rfl j (.int .u8 (l[j].toNat:Int)) (by unfold u8s;rw[List.getElem?_map,List.getElem?_eq_getElem hj];rfl)
 exact this
section
theorem D5 (base:Nat) (w:World) (xs:List Int):∀W,VStep base (w.alloc (.cells (ah xs).toArray 3)) W->Rd W W.heap.size 1 (some ⟨w.heap.size,0,none⟩) xs.length (ah xs):=by
 intro W hv
 have hh:=heap_alloc_new w (.cells (ah xs).toArray 3)
 have hk:=(hv.keep w.heap.size 3 ⟨_,_,hh⟩ (by decide) (by decide)).trans hh
 exact Rd.of_block hk (za hk) rfl (by simp[ah])
theorem tw (base pb:Nat) (l:List UInt8) (xs:List Int) (w:World) (h:PenR w base pb l) (hl:l.length<=100000) (hn:xs.length<=100000):
  Calls prog 107 #[.pointer (some ⟨pb,0,none⟩),.slice (some ⟨w.heap.size,0,none⟩) xs.length xs.length] (w.alloc (.cells (ah xs).toArray 3)) λe w'=>e=.returned (.tuple #[])/\PenR w' base pb (l++bA xs)/\VStep base w w':=
 have hs:=h.size
 (sJ base pb l xs (some ⟨w.heap.size,0,none⟩) xs.length xs.length (w.alloc (.cells (ah xs).toArray 3)) (h.next (ac w _)) hl hn (D5 base w xs)).mono λ_ _ ⟨h1,h2,h3⟩=>⟨h1,h2,(VStep.of (ac w _) hs).trans h3⟩
theorem xy (base pb:Nat) (l:List UInt8) (x:Int) (w:World) (h:PenR w base pb l) (hl:l.length<=100000):
  Calls prog 107 #[.pointer (some ⟨pb,0,none⟩),.slice (some ⟨w.heap.size,0,none⟩) 1 1] (w.alloc (.cells #[.int .i64 x] 3)) λe w'=>e=.returned (.tuple #[])/\PenR w' base pb (l++[az x])/\VStep base w w':=
 tw base pb l [x] w h hl (by simp)
theorem DP (base pb:Nat) (l:List UInt8) (x y:Int) (w:World) (h:PenR w base pb l) (hl:l.length<=100000):
  Calls prog 107 #[.pointer (some ⟨pb,0,none⟩),.slice (some ⟨w.heap.size,0,none⟩) 2 2] (w.alloc (.cells #[.int .i64 x,.int .i64 y] 3)) λe w'=>e=.returned (.tuple #[])/\PenR w' base pb (l++[az x,az y])/\VStep base w w':=
 tw base pb l [x,y] w h hl (by simp)
theorem Bk (base pb:Nat) (l:List UInt8) (xs:List Int) (A:Option Addr) (n c B:Nat) (w0 w:World) (h:PenR w base pb l) (hl:l.length<=100000) (hn:n<=100000) (hr:Rd w0 B 1 A n (ah xs)) (hb:Below base w0 w) (hB:B<=base):
  Calls prog 107 #[.pointer (some ⟨pb,0,none⟩),.slice A n c] w λe w'=>e=.returned (.tuple #[])/\PenR w' base pb (l++bA xs)/\VStep base w w':=
 sJ base pb l xs A n c w h hl hn λW hv=>(Rd.below hr (hb.trans hv.below) hB).more (by have:=h.size;have:=hv.below.size;omega)
end
def wrS (m:Img):ByteArray:=if ab m=0 then ofL (ea m)else ofL []
theorem vG (v:IV) (m:Img) (w:World) (h:ImgR w w.heap.size v m):Calls prog 63 #[ae m v] w λe w'=>e=.returned (.tuple #[.string (wrS m),.int .i64 (ab m)])/\Below w.heap.size w w':=by
 have KC':= λW (hb:Below w.heap.size w W)=>bq v m W (h.next hb)
 have hslen:=h.slen
 have hplen:=h.plen
 have HI:=zh h
 have HX':=Box.new w m.guest v 34
 obtain⟨rA,rn,rc,sA,sn,sc,fA,fn,fc,pA,pn,pc⟩:=v
 dsimp only[ae]at KC' HX' hslen hplen⊢
 have HX:=zh HX'
 have HB1:=ac w (.cells #[.int .i64 m.guest,.slice rA rn rc,.slice sA sn sc,.slice fA fn fc,.slice pA pn pc] 34)
 have hz:w.heap.size<(w.alloc (.cells #[.int .i64 m.guest,.slice rA rn rc,.slice sA sn sc,.slice fA fn fc,.slice pA pn pc] 34)).heap.size:=by simp
 by_cases he:ab m=0
 case neg=>
  have R:=zh (show wrS m={data:=#[]}from by unfold wrS;rw[if_neg he];rfl)
  have he':(ab m !=0)=true:=by simpa using he
  have KC:=zh KC'
  obtain⟨x0,x1,x2,x3,x4⟩:=HX.o
  dsimp only at x0 x1 x2 x3 x4
  clear HX' KC' h HX
  generalize ab m=er at*
  go_enter func63,ntmps63
  go_wp2_with fail
  refine(KC.o _ HB1).mono ?_
  rintro e w2 ⟨rfl,hb⟩
  have T2:=zh (aa HB1 hb)
  clear hb HB1 x0 x1 x2 x3 x4 hz KC
  go_wp2_with fail
  go_ret2
  rw[R.o]
  exact⟨rfl,T2.o⟩
 have R:=zh (show wrS m=ofL (ea m)from by unfold wrS;rw[if_pos he])
 have SS:=ay (aq he).1
 have hcb:=SS.cbd
 have h40:=hcb.slots
 have h4p:=hcb.snaps
 have hrt:=hcb.root
 have HSL:=zh (show∀k s,m.slots[k]? =some s->s.data.size<=4/\s.table.length<=4 fromλk s hk=>⟨gZ (List.all_eq_true.1 (bR SS.slots) s (List.mem_of_getElem? hk)),hcb.tables s (List.mem_of_getElem? hk)⟩)
 have HPL:=zh (show∀k s,m.snaps[k]? =some s->s.name.size<=8/\s.root.length<=4 fromλk s hk=>⟨nM SS hk,hcb.roots s (List.mem_of_getElem? hk)⟩)
 have LS:=zh (show∀k,((m.slots.take k).flatMap cI).length<=360 fromλk=>by
  have:=iI (f:=cI) (c:=9) (l:=m.slots.take k) λx hx=>by
   obtain⟨j,hj⟩:=List.getElem?_of_mem (List.mem_of_mem_take hx)
   have:=HSL.o j x hj
   simp only[cI,List.length_cons,List.length_append,bv,dK];omega
  rw[List.length_take]at this
  omega)
 have LP:=zh (show∀k,((m.snaps.take k).flatMap cJ).length<=60 fromλk=>by
  have:=iI (f:=cJ) (c:=14) (l:=m.snaps.take k) λx hx=>by
   obtain⟨j,hj⟩:=List.getElem?_of_mem (List.mem_of_mem_take hx)
   have:=HPL.o j x hj
   simp only[cJ,List.length_cons,List.length_append,bv,dK];omega
  rw[List.length_take]at this
  omega)
 have hr1:rn<=4:=by have:=h.rlen;dsimp only at this;omega
 rw[he]at KC'⊢
 have KC:=zh KC'
 obtain⟨x0,x1,x2,x3,x4⟩:=HX.o
 dsimp only at x0 x1 x2 x3 x4
 clear HX' KC' h SS hcb hrt
 go_enter func63,ntmps63
 go_wp2_with fail
 generalize w.alloc (.cells #[.int .i64 m.guest,.slice rA rn rc,.slice sA sn sc,.slice fA fn fc,.slice pA pn pc] 34)=w1 at*
 refine(KC.o _ HB1).mono ?_
 rintro e w2 ⟨rfl,hb⟩
 have T2:=aa HB1 hb
 have X2:=zh (HX.o.keep hb hz)
 have hz2:=Nat.lt_of_lt_of_le hz hb.size
 have P3':PenR (w2.alloc (.cells #[.slice none 0 0] 124)) w2.heap.size w2.heap.size []:=⟨Nat.le_refl _,none,0,heap_alloc_new w2 _,World.ownsRow_nil _ _ _ _⟩
 have B3:=ac w2 (.cells #[.slice none 0 0] 124)
 have T3:=zh (aa T2 B3)
 have X3:=zh (X2.o.keep B3 hz2)
 have P3:=zh P3'
 clear hb KC HX P3' x0 x1 x2 x3 x4 X2
 obtain⟨x0,x1,x2,x3,x4⟩:=X3.o
 dsimp only at x0 x1 x2 x3 x4
 generalize hbase:w2.heap.size=base at*
 have hwb:w.heap.size<=base:=by omega
 go_upto_region 5 with fail
 generalize w2.alloc (.cells #[.slice none 0 0] 124)=w3 at*
 have K5:=zh (DP base base [] m.guest (sn:Int) w3 P3.o (by simp))
 go_wp2_with fail
 refine K5.o.mono ?_
 rintro e w4 ⟨rfl,hp,hv⟩
 have P4:=zh (show PenR w4 base base ([az m.guest,az (sn:Int)]++(m.slots.take 0).flatMap cI)from by simpa using hp)
 have V4:=zh hv
 clear hp hv K5 P3 x0 x1 x2 x3 x4
 obtain⟨x0,x1,x2,x3,x4⟩:=X3.o.keep V4.o.below hz2
 dsimp only at x0 x1 x2 x3 x4
 go_wp2_with fail
 clear x0 x1 x2 x3 x4
 go_loopw [28] (λi wr=>∃k:Nat,k<=sn/\i=.int .i64 k/\PenR wr base base ([az m.guest,az (sn:Int)]++(m.slots.take k).flatMap cI)/\VStep base w3 wr) (λi _=>sn-(intOf i).toNat)
 case atStart=>exact⟨0,Nat.zero_le _,rfl,P4.o,V4.o⟩
 case round=>
  obtain⟨k,hk,rfl,hp,hv⟩:=hrel
  by_cases hlt:k<sn
  ·obtain⟨b,o,s,tA,tn,tc,rfl,hb,hx,d0,d1,d2,hsv⟩:=HI.o.slots.at_ (k:=k) hlt
   have TW:=T3.o.trans (hv.below.mono hwb)
   have d0:=(TW.cell (p:=⟨b,o+k*3,none⟩) hb).trans d0
   have d1:=(TW.cell (p:=⟨b,o+k*3+1,none⟩) hb).trans d1
   have d2:=(TW.cell (p:=⟨b,o+k*3+2,none⟩) hb).trans d2
   obtain⟨sd,st⟩:=HSL.o k s hx
   have hL:=LS.o k
   have HTK:=zh (show[az m.guest,az (sn:Int)]++(m.slots.take (k+1)).flatMap cI=[az m.guest,az (sn:Int)]++(m.slots.take k).flatMap cI++cI s from by rw[List.take_add_one,hx];simp)
   have hLL:([az m.guest,az (sn:Int)]++(m.slots.take k).flatMap cI).length<=400:=by rw[List.length_append];simp only[List.length_cons,List.length_nil];omega
   generalize [az m.guest,az (sn:Int)]++(m.slots.take k).flatMap cI=L at*
   have W5:=ac wr (.cells #[.int .i64 s.kind,.string s.data,.slice tA tn tc] 108)
   have X5:=heap_alloc_new wr (.cells #[.int .i64 s.kind,.string s.data,.slice tA tn tc] 108)
   have c0:=cell_of_row _ _ 0 _ _ _ X5
   simp only[List.getElem?_toArray,List.getElem?_cons_zero]at c0
   have P5:=zh (hp.next W5)
   have V5:=zh (hv.trans (VStep.of W5 hp.size))
   have htn:tn<=4:=by have:=hsv.table.len;omega
   have HRD:=zh (Rd.below hsv.table T3.o (Nat.le_refl _))
   have e0:(0:Int)<=(k:Int):=by omega
   have e1:(k:Int)<(sn:Int):=by omega
   clear W5 hp hv hsv hx hL
   go_upto_region 9 with fail
   clear d0 d1 d2
   generalize wr.alloc (.cells #[.int .i64 s.kind,.string s.data,.slice tA tn tc] 108)=w5 at*
   have K6:=zh (xy base base L s.kind w5 P5.o (by omega))
   go_wp2_with fail
   refine K6.o.mono ?_
   rintro e w6 ⟨rfl,hp6,hv6⟩
   have X6:=(hv6.keep wr.heap.size 108 ⟨_,_,X5⟩ (by decide) (by decide)).trans X5
   have c1:=cell_of_row _ _ 1 _ _ _ X6
   simp only[List.getElem?_toArray,List.getElem?_cons_zero,List.getElem?_cons_succ]at c1
   have K7:=zh (sK base base (L++[az s.kind]) s.data w6 hp6 (by rw[List.length_append];simp only[List.length_cons,List.length_nil];omega) (by omega))
   have V6:=zh (V5.o.trans hv6)
   clear c0 X5 K6 P5 V5 hp6 hv6
   go_wp2_with fail
   refine K7.o.mono ?_
   rintro e w7 ⟨rfl,hp7,hv7⟩
   have X7:=(hv7.keep wr.heap.size 108 ⟨_,_,X6⟩ (by decide) (by decide)).trans X6
   have c2:=cell_of_row _ _ 2 _ _ _ X7
   simp only[List.getElem?_toArray,List.getElem?_cons_zero,List.getElem?_cons_succ]at c2
   have V7:=zh (V6.o.trans hv7)
   have K8:=zh (Bk base base (L++[az s.kind]++toL s.data) s.table tA tn tc w.heap.size w3 w7 hp7 (by rw[List.length_append,List.length_append,bv];simp only[List.length_cons,List.length_nil];omega) (by omega) HRD.o V7.o.below hwb)
   clear c1 X6 K7 V6 hp7 hv7
   go_wp2_with fail
   refine K8.o.mono ?_
   rintro e w8 ⟨rfl,hp8,hv8⟩
   have P8:=zh (show PenR w8 base base (L++cI s)from by rw[show L++cI s=L++[az s.kind]++toL s.data++bA s.table from by simp[cI]];exact hp8)
   have V8:=zh (V7.o.trans hv8)
   clear c2 X7 K8 V7 hp8 hv8 HRD
   go_wp2_with fail
   go_roundw
   case rel=>exact⟨k+1,by omega,by go_num,by rw[HTK.o];exact P8.o,V8.o⟩
   case measure=>simp[intOf];omega
  ·obtain rfl:k=sn:=by omega
   rw[List.take_of_length_le (by omega)]at hp
   have hL:=LS.o k
   rw[List.take_of_length_le (by omega)]at hL
   have P9:=zh hp
   have V9:=zh hv
   obtain⟨x0,x1,x2,x3,x4⟩:=X3.o.keep hv.below hz2
   dsimp only at x0 x1 x2 x3 x4
   have hLL:([az m.guest,az (k:Int)]++m.slots.flatMap cI).length<=400:=by rw[List.length_append];simp only[List.length_cons,List.length_nil];omega
   have RR:=zh (show ea m=[az m.guest,az (k:Int)]++m.slots.flatMap cI++[az (pn:Int)]++m.snaps.flatMap cJ++bA m.root from by unfold ea;rw[hslen,hplen];simp)
   generalize [az m.guest,az (k:Int)]++m.slots.flatMap cI=L at*
   have K9:=zh (xy base base L (pn:Int) wr P9.o (by omega))
   clear hp hv P4 V4 HSL LS hlt hk hL
   go_wp2_with fail
   refine K9.o.mono ?_
   rintro e w10 ⟨rfl,hp,hv⟩
   have P10:=zh (show PenR w10 base base (L++[az (pn:Int)]++(m.snaps.take 0).flatMap cJ)from by simpa using hp)
   have V10:=zh (V9.o.trans hv)
   have hL2:(L++[az (pn:Int)]).length<=401:=by rw[List.length_append];simp only[List.length_cons,List.length_nil];omega
   clear hp hv K9 P9 V9 x0 x1 x2 x3 x4 hLL
   obtain⟨x0,x1,x2,x3,x4⟩:=X3.o.keep V10.o.below hz2
   dsimp only at x0 x1 x2 x3 x4
   generalize L++[az (pn:Int)]=L at*
   go_wp2_with fail
   clear x0 x1 x2 x3 x4
   go_loopw [55] (λi wr=>∃k:Nat,k<=pn/\i=.int .i64 k/\PenR wr base base (L++(m.snaps.take k).flatMap cJ)/\VStep base w3 wr) (λi _=>pn-(intOf i).toNat)
   case atStart=>exact⟨0,Nat.zero_le _,rfl,P10.o,V10.o⟩
   case round=>
    obtain⟨y,hk,rfl,hp,hv⟩:=hrel
    clear P10 V10
    by_cases hlt:y<pn
    ·obtain⟨b,o,s,tA,tn,tc,rfl,hb,hx,d0,d1,d2,hsv⟩:=HI.o.snaps.at_ (k:=y) hlt
     have TW:=T3.o.trans (hv.below.mono hwb)
     have d0:=(TW.cell (p:=⟨b,o+y*3,none⟩) hb).trans d0
     have d1:=(TW.cell (p:=⟨b,o+y*3+1,none⟩) hb).trans d1
     have d2:=(TW.cell (p:=⟨b,o+y*3+2,none⟩) hb).trans d2
     obtain⟨sd,st⟩:=HPL.o y s hx
     have hL:=LP.o y
     have HTK:=zh (show L++(m.snaps.take (y+1)).flatMap cJ=L++(m.snaps.take y).flatMap cJ++cJ s from by rw[List.take_add_one,hx];simp)
     have hLL:(L++(m.snaps.take y).flatMap cJ).length<=500:=by rw[List.length_append];omega
     generalize L++(m.snaps.take y).flatMap cJ=L1 at*
     have W5:=ac wr (.cells #[.string s.name,.int .i64 s.guest,.slice tA tn tc] 102)
     have X5:=heap_alloc_new wr (.cells #[.string s.name,.int .i64 s.guest,.slice tA tn tc] 102)
     have c0:=cell_of_row _ _ 0 _ _ _ X5
     simp only[List.getElem?_toArray,List.getElem?_cons_zero]at c0
     have P5:=zh (hp.next W5)
     have V5:=zh (hv.trans (VStep.of W5 hp.size))
     have htn:tn<=4:=by have:=hsv.root.len;omega
     have HRD:=zh (Rd.below hsv.root T3.o (Nat.le_refl _))
     have e0:(0:Int)<=(y:Int):=by omega
     have e1:(y:Int)<(pn:Int):=by omega
     clear W5 hp hv hsv hx hL
     go_upto_region 17 with fail
     clear d0 d1 d2
     generalize wr.alloc (.cells #[.string s.name,.int .i64 s.guest,.slice tA tn tc] 102)=w5 at*
     have K6:=zh (xy base base L1 (s.name.size:Int) w5 P5.o (by omega))
     go_wp2_with fail
     refine K6.o.mono ?_
     rintro e w6 ⟨rfl,hp6,hv6⟩
     have X6:=(hv6.keep wr.heap.size 102 ⟨_,_,X5⟩ (by decide) (by decide)).trans X5
     have c1:=cell_of_row _ _ 0 _ _ _ X6
     simp only[List.getElem?_toArray,List.getElem?_cons_zero]at c1
     have K7:=zh (sK base base (L1++[az (s.name.size:Int)]) s.name w6 hp6 (by rw[List.length_append];simp only[List.length_cons,List.length_nil];omega) (by omega))
     have V6:=zh (V5.o.trans hv6)
     clear c0 X5 K6 P5 V5 hp6 hv6
     go_wp2_with fail
     refine K7.o.mono ?_
     rintro e w7 ⟨rfl,hp7,hv7⟩
     have X7:=(hv7.keep wr.heap.size 102 ⟨_,_,X6⟩ (by decide) (by decide)).trans X6
     have c2:=cell_of_row _ _ 1 _ _ _ X7
     simp only[List.getElem?_toArray,List.getElem?_cons_zero,List.getElem?_cons_succ]at c2
     have V7:=zh (V6.o.trans hv7)
     have hl7:(L1++[az (s.name.size:Int)]++toL s.name).length<=600:=by rw[List.length_append,List.length_append,bv];simp only[List.length_cons,List.length_nil];omega
     have K8:=zh (xy base base (L1++[az (s.name.size:Int)]++toL s.name) s.guest w7 hp7 (by omega))
     clear c1 X6 K7 V6 hp7 hv7
     go_wp2_with fail
     refine K8.o.mono ?_
     rintro e w8 ⟨rfl,hp8,hv8⟩
     have X8:=(hv8.keep wr.heap.size 102 ⟨_,_,X7⟩ (by decide) (by decide)).trans X7
     have c3:=cell_of_row _ _ 2 _ _ _ X8
     simp only[List.getElem?_toArray,List.getElem?_cons_zero,List.getElem?_cons_succ]at c3
     have V8:=zh (V7.o.trans hv8)
     have K9:=zh (Bk base base (L1++[az (s.name.size:Int)]++toL s.name++[az s.guest]) s.root tA tn tc w.heap.size w3 w8 hp8 (by rw[List.length_append];simp only[List.length_cons,List.length_nil];omega) (by omega) HRD.o V8.o.below hwb)
     clear c2 X7 K8 V7 hp8 hv8
     go_wp2_with fail
     refine K9.o.mono ?_
     rintro e w9 ⟨rfl,hp9,hv9⟩
     have P9:=zh (show PenR w9 base base (L1++cJ s)from by rw[show L1++cJ s=L1++[az (s.name.size:Int)]++toL s.name++[az s.guest]++bA s.root from by simp[cJ]];exact hp9)
     have V9:=zh (V8.o.trans hv9)
     clear c3 X8 K9 V8 hp9 hv9 HRD
     go_wp2_with fail
     go_roundw
     case rel=>exact⟨y+1,by omega,by go_num,by rw[HTK.o];exact P9.o,V9.o⟩
     case measure=>simp[intOf];omega
    ·obtain rfl:y=pn:=by omega
     rw[List.take_of_length_le (by omega)]at hp
     have hL:=LP.o y
     rw[List.take_of_length_le (by omega)]at hL
     obtain⟨x0,x1,x2,x3,x4⟩:=X3.o.keep hv.below hz2
     dsimp only at x0 x1 x2 x3 x4
     have HRD:=Rd.below HI.o.root T3.o (Nat.le_refl _)
     have K9:=zh (Bk base base (L++m.snaps.flatMap cJ) m.root rA rn rc w.heap.size w3 wr hp (by rw[List.length_append];omega) (by omega) HRD hv.below hwb)
     have V9:=zh hv
     clear hp hv HPL LP hlt hk hL HRD
     go_wp2_with fail
     refine K9.o.mono ?_
     rintro e w10 ⟨rfl,hp,hv⟩
     rw[<-RR.o]at hp
     obtain⟨A,c,h1,h2⟩:=hp.box
     have hcv:=xx h2 (by unfold ea;simp)
     have cp:=cell_of_row _ _ 0 _ _ _ h1
     simp only[List.getElem?_toArray,List.getElem?_cons_zero]at cp
     have TE:=zh (T3.o.trans ((V9.o.trans hv).below.mono hwb))
     clear K9 V9 hp hv h1 h2 x0 x1 x2 x3 x4
     generalize (ea m).length=z at*
     go_wp2_with fail
     go_ret2
     rw[R.o]
     exact⟨rfl,TE.o⟩
section
variable {w:World} {base n c:Nat} {A:Option Addr} {l:List UInt8}
theorem lO (h:w.ownsRow base 5 1 (.slice A n c) n (u8s l)) (x:Int) (hn:n<=100000) (hb:base<=w.heap.size):
  ∃A' c' w',(Builtin.append_ #[39,39] 39 #[.slice A n c,.slice (some ⟨w.heap.size,0,none⟩) 1 1]).run prog (w.alloc (.cells #[.int .u8 (x%256)] 5))=.ok (.slice A' (n+1) c') w'/\
   w'.ownsRow base 5 1 (.slice A' (n+1) c') (n+1) (u8s (l++[az x]))/\VStep base w w':=by
 obtain⟨i0,hi0,hz0,hz1,hz2⟩:=info_parts infoU8
 obtain⟨A',c',w',r1,r2,_,_,_,r6,_⟩:=cK (P:=prog) w base 39 39 5 i0 _ 1 1 underlying39 hi0 hz0 hz1 hz2 rfl (by omega) _ _ _ h #[.int .u8 (x%256)] rfl (by intro u hu;simp at hu;subst hu;rfl) (by omega) (by unfold maxLen;omega) hb
 have b1:=ac w (.cells #[.int .u8 (x%256)] 5)
 have h1:=aI h b1
 refine⟨A',c',w',r1,?_,(VStep.of b1 hb).trans (VStep.grown (T:=5) r6 (by have:=b1.size;omega) (λk hk=>⟨(h1.lt k hk).1,au h1 hk⟩) (.inl rfl))⟩
 rw[lF,show u8s [az x]=[.int .u8 (x%256)]from by simp[u8s,kK]];exact r2
theorem xz (h:w.ownsRow base 5 1 (.slice A n c) n (u8s l)) (s:ByteArray) (hn:n<=100000) (hs:s.size<=100000) (hb:base<=w.heap.size):
  ∃A' c' w',(Builtin.append_ #[39,9] 39 #[.slice A n c,.string s]).run prog w=.ok (.slice A' (n+s.size) c') w'/\
   w'.ownsRow base 5 1 (.slice A' (n+s.size) c') (n+s.size) (u8s (l++toL s))/\VStep base w w':=by
 obtain⟨i0,hi0,hz0,hz1,hz2⟩:=info_parts infoU8
 obtain⟨v',w',r1,r2,r3,_⟩:=Lib.run_append_own_string (P:=prog) w base 39 9 39 5 i0 underlying39 underlying9 hi0 hz0 hz1 hz2 _ _ _ h s (by unfold maxLen;omega) (by omega) hb
 obtain⟨A',c',rfl,_,_⟩:=ll r2
 exact⟨A',c',w',r1,by rw[lF];exact r2,VStep.grown (T:=5) r3 hb (λk hk=>⟨(h.lt k hk).1,au h hk⟩) (.inl rfl)⟩
theorem rm (h:w.ownsRow base 5 1 (.slice A n c) n (u8s l)) {B:Option Addr} {k d:Nat} {l2:List UInt8} (h2:Rd w w.heap.size 1 B k (u8s l2)) (hn:n<=100000) (hk:k<=100000) (hb:base<=w.heap.size):
  ∃A' c' w',(Builtin.append_ #[39,39] 39 #[.slice A n c,.slice B k d]).run prog w=.ok (.slice A' (n+k) c') w'/\
   w'.ownsRow base 5 1 (.slice A' (n+k) c') (n+k) (u8s (l++l2))/\VStep base w w':=by
 obtain⟨i0,hi0,hz0,hz1,hz2⟩:=info_parts infoU8
 obtain⟨A',c',w',r1,r2,_,_,_,r6,_⟩:=gO (P:=prog) w base 39 39 5 i0 _ 1 1 underlying39 hi0 hz0 hz1 hz2 rfl (by omega) _ _ _ h w.heap.size B k d _ h2 (Cw l2) (by omega) (by unfold maxLen;omega) hb
 exact⟨A',c',w',r1,by rw[lF];exact r2,VStep.grown (T:=5) r6 hb (λk hk=>⟨(h.lt k hk).1,au h hk⟩) (.inl rfl)⟩
end
theorem jG (A:Option Addr) (n c:Nat) (xs:List Int) (w:World) (hr:Rd w w.heap.size 1 A n (ah xs)) (hn:n<=1000):
  Calls prog 87 #[.slice A n c] w λe w'=>∃A' c',e=.returned (.slice A' n c')/\w'.ownsRow w.heap.size 5 1 (.slice A' n c') n (u8s (bA xs))/\Below w.heap.size w w':=by
 have hxl:xs.length=n:=hr.len
 go_enter func87,ntmps87
 go_wp2_with fail
 go_loopw [3,4] (λo i wr=>∃(k c':Nat) (A':Option Addr),k<=n/\i=.int .i64 k/\o=.slice A' k c'/\wr.ownsRow w.heap.size 5 1 (.slice A' k c') k (u8s (bA (xs.take k)))/\Below w.heap.size w wr) (λ_ i _=>n-(intOf i).toNat)
 case atStart=>exact⟨0,0,none,Nat.zero_le _,rfl,rfl,World.ownsRow_nil _ _ _ _,Below.refl _ _⟩
 case round=>
  obtain⟨k,c',A',hk,rfl,rfl,ho,hb⟩:=hrel
  by_cases hlt:k<n
  ·obtain⟨b,o,x,rfl,hbl,hx,cx⟩:=(Rd.next hr hb).at1 hlt
   have e0:(0:Int)<=(k:Int):=by omega
   have e1:(k:Int)<(n:Int):=by omega
   have HTK:=zh (show bA (xs.take (k+1))=bA (xs.take k)++[az x]from by rw[List.take_add_one,hx];simp[bA])
   obtain⟨A2,c2,w4,q1,q2,q3⟩:=lO ho x (by omega) hb.size
   have HR:=zh q1
   have HO:=zh q2
   have HB:=zh (hb.trans q3.below)
   clear q1 q2 q3 ho hx
   go_wp2_with (at_builtin;refine aA rfl _ _ _ _ rfl rfl rfl rfl HR.o ?_)
   go_roundw
   case rel=>exact⟨k+1,c2,A2,by omega,by go_num,rfl,by rw[HTK.o];exact HO.o,HB.o⟩
   case measure=>simp[intOf];omega
  ·obtain rfl:k=n:=by omega
   rw[List.take_of_length_le (by omega)]at ho
   go_wp2_with fail
   go_ret
   exact⟨A',c',rfl,ho,hb⟩
theorem oh (v:IV) (m:Img) (w:World) (h:ImgR w w.heap.size v m) (he:ab m=0):Calls prog 49 #[ae m v] w λe w'=>e=.returned (.string (ofL (ea m)))/\Below w.heap.size w w':=by
 have hslen:=h.slen
 have hplen:=h.plen
 have HI:=zh h
 have HX':=Box.new w m.guest v 34
 obtain⟨rA,rn,rc,sA,sn,sc,fA,fn,fc,pA,pn,pc⟩:=v
 dsimp only[ae]at HX' hslen hplen⊢
 have HX:=zh HX'
 have HB1:=ac w (.cells #[.int .i64 m.guest,.slice rA rn rc,.slice sA sn sc,.slice fA fn fc,.slice pA pn pc] 34)
 have hz:w.heap.size<(w.alloc (.cells #[.int .i64 m.guest,.slice rA rn rc,.slice sA sn sc,.slice fA fn fc,.slice pA pn pc] 34)).heap.size:=by simp
 have SS:=ay (aq he).1
 have hcb:=SS.cbd
 have h40:=hcb.slots
 have h4p:=hcb.snaps
 have HSL:=zh (show∀k s,m.slots[k]? =some s->s.data.size<=4/\s.table.length<=4 fromλk s hk=>⟨gZ (List.all_eq_true.1 (bR SS.slots) s (List.mem_of_getElem? hk)),hcb.tables s (List.mem_of_getElem? hk)⟩)
 have HPL:=zh (show∀k s,m.snaps[k]? =some s->s.name.size<=8/\s.root.length<=4 fromλk s hk=>⟨nM SS hk,hcb.roots s (List.mem_of_getElem? hk)⟩)
 have hr1:rn<=4:=by have:=h.rlen;dsimp only at this;have:=hcb.root;omega
 have hR:=h.root
 clear HX' h SS hcb he
 go_enter func49,ntmps49
 go_upto_region 1 with fail
 generalize w.alloc (.cells #[.int .i64 m.guest,.slice rA rn rc,.slice sA sn sc,.slice fA fn fc,.slice pA pn pc] 34)=w1 at*
 obtain⟨x0,x1,x2,x3,x4⟩:=HX.o
 dsimp only at x0 x1 x2 x3 x4
 have O2':(w1.alloc (.cells #[.int .u8 (m.guest%256),.int .u8 (sn:Int)] 5)).ownsRow w1.heap.size 5 1 (.slice (some ⟨w1.heap.size,0,none⟩) 2 2) 2 (u8s ([az m.guest,az (sn:Int)]++(m.slots.take 0).flatMap cI)):=by
  have:=cQ (base:=w1.heap.size) (n:=2) (heap_alloc_new w1 (.cells [Value.int .u8 (m.guest%256),Value.int .u8 (sn:Int)].toArray 5)) (Nat.le_refl _) rfl (by decide)
  have e1:(sn:Int)%256=sn:=by omega
  simpa[u8s,kK,e1]using this
 have V2':VStep w1.heap.size w1 (w1.alloc (.cells #[.int .u8 (m.guest%256),.int .u8 (sn:Int)] 5)):=VStep.of (ac w1 _) (Nat.le_refl _)
 have O2:=zh O2'
 have V2:=zh V2'
 clear O2' V2'
 go_wp2_with fail
 generalize w1.alloc (.cells #[.int .u8 (m.guest%256),.int .u8 (sn:Int)] 5)=w2 at*
 clear x0 x1 x2 x3 x4
 go_loopw [3,4] (λo i wr=>∃(k q c:Nat) (A:Option Addr) (L:List UInt8),k<=sn/\i=.int .i64 k/\o=.slice A q c/\L=[az m.guest,az (sn:Int)]++(m.slots.take k).flatMap cI/\q<=2+9*k/\wr.ownsRow w1.heap.size 5 1 (.slice A q c) q (u8s L)/\VStep w1.heap.size w1 wr) (λ_ i _=>sn-(intOf i).toNat)
 case atStart=>exact⟨0,2,2,_,_,Nat.zero_le _,rfl,rfl,rfl,Nat.le_refl _,O2.o,V2.o⟩
 case round=>
  obtain⟨k,q,c,A,L,hk,rfl,rfl,hLd,hq,ho,hv⟩:=hrel
  have TW:=HB1.trans (hv.below.mono (Nat.le_of_lt hz))
  obtain⟨x0,x1,x2,x3,x4⟩:=HX.o.keep hv.below hz
  dsimp only at x0 x1 x2 x3 x4
  by_cases hlt:k<sn
  ·obtain⟨b,o,s,tA,tn,tc,rfl,hb,hx,d0,d1,d2,hsv⟩:=HI.o.slots.at_ (k:=k) hlt
   have d0:=(TW.cell (p:=⟨b,o+k*3,none⟩) hb).trans d0
   have d1:=(TW.cell (p:=⟨b,o+k*3+1,none⟩) hb).trans d1
   have d2:=(TW.cell (p:=⟨b,o+k*3+2,none⟩) hb).trans d2
   obtain⟨sd,st⟩:=HSL.o k s hx
   have HTK:=zh (show L++cI s=[az m.guest,az (sn:Int)]++(m.slots.take (k+1)).flatMap cI from by rw[hLd,List.take_add_one,hx];simp)
   have W5:=ac wr (.cells #[.int .i64 s.kind,.string s.data,.slice tA tn tc] 108)
   have X5:=heap_alloc_new wr (.cells #[.int .i64 s.kind,.string s.data,.slice tA tn tc] 108)
   have c0:=cell_of_row _ _ 0 _ _ _ X5
   simp only[List.getElem?_toArray,List.getElem?_cons_zero]at c0
   have O5:=zh (aI ho W5)
   have hws:=Nat.le_trans hv.below.size W5.size
   have V5:=zh (hv.trans (VStep.of W5 hv.below.size))
   have htl:=hsv.table.len
   have HRD:=zh (Rd.below hsv.table HB1 (Nat.le_refl _))
   have e0:(0:Int)<=(k:Int):=by omega
   have e1:(k:Int)<(sn:Int):=by omega
   clear W5 ho hv hsv hx hLd TW
   go_upto_region 6 with fail
   clear d0 d1 d2
   generalize wr.alloc (.cells #[.int .i64 s.kind,.string s.data,.slice tA tn tc] 108)=w5 at*
   obtain⟨A6,c6,w6,q1,q2,q3⟩:=lO O5.o s.kind (by omega) hws
   have HR:=zh q1
   have X6:=(q3.keep wr.heap.size 108 ⟨_,_,X5⟩ (by decide) (by decide)).trans X5
   have c1:=cell_of_row _ _ 1 _ _ _ X6
   have c2:=cell_of_row _ _ 2 _ _ _ X6
   simp only[List.getElem?_toArray,List.getElem?_cons_zero,List.getElem?_cons_succ]at c1 c2
   obtain⟨A7,c7,w7,t1,t2,t3⟩:=xz q2 s.data (by omega) (by omega) (Nat.le_trans hws q3.below.size)
   have HR7:=zh t1
   have X7:=(t3.keep wr.heap.size 108 ⟨_,_,X6⟩ (by decide) (by decide)).trans X6
   have c3:=cell_of_row _ _ 2 _ _ _ X7
   simp only[List.getElem?_toArray,List.getElem?_cons_zero,List.getElem?_cons_succ]at c3
   have V7:=zh (V5.o.trans (q3.trans t3))
   have O7:=zh t2
   have h7:=V7.o.below.size
   have K8:=zh (jG tA tn tc s.table w7 ((Rd.below HRD.o V7.o.below (Nat.le_of_lt hz)).more (by omega)) (by omega))
   clear q1 q2 q3 t1 t2 t3 X5 X6 X7 O5 V5 HRD hws
   go_upto_region 7 with(at_builtin;refine aA rfl _ _ _ _ rfl rfl rfl rfl HR.o ?_)
   clear c0 HR x0 x1 x2 x3 x4 c2
   go_upto_region 8 with(at_builtin;refine jv rfl _ _ _ _ _ rfl rfl rfl rfl HR7.o ?_)
   clear c1 HR7
   go_wp2_with fail
   refine K8.o.mono ?_
   rintro e w8 ⟨A8,c8,rfl,ho8,hb8⟩
   obtain⟨A9,c9,w9,t1,t2,t3⟩:=rm (d:=c8) (aI O7.o hb8) (Rd.of_own ho8) (by omega) (by omega) (by have:=hb8.size;omega)
   have HR9:=zh t1
   have O9:=zh (show w9.ownsRow w1.heap.size 5 1 (.slice A9 (q+1+s.data.size+tn) c9) (q+1+s.data.size+tn) (u8s (L++cI s))from by rw[show L++cI s=L++[az s.kind]++toL s.data++bA s.table from by simp[cI]];exact t2)
   have V9:=zh (V7.o.trans ((VStep.of hb8 h7).trans t3))
   clear t1 t2 t3 K8 O7 V7 ho8 hb8 c3
   go_wp2_with (at_builtin;refine aA rfl _ _ _ _ rfl rfl rfl rfl HR9.o ?_)
   go_roundw
   case rel=>exact⟨k+1,q+1+s.data.size+tn,c9,A9,L++cI s,by omega,by go_num,rfl,HTK.o,by omega,O9.o,V9.o⟩
   case measure=>simp[intOf];omega
  ·obtain rfl:k=sn:=by omega
   rw[List.take_of_length_le (by omega)]at hLd
   have RR:=zh (show ea m=L++[az (pn:Int)]++m.snaps.flatMap cJ++bA m.root from by rw[hLd];unfold ea;rw[hslen,hplen];simp)
   obtain⟨A6,c6,w6,q1,q2,q3⟩:=lO ho (pn:Int) (by omega) hv.below.size
   rw[show(pn:Int)%256=pn from by omega]at q1
   have HR:=zh q1
   have O6:=zh (show w6.ownsRow w1.heap.size 5 1 (.slice A6 (q+1) c6) (q+1) (u8s (L++[az (pn:Int)]++(m.snaps.take 0).flatMap cJ))from by simpa using q2)
   have V6:=zh (hv.trans q3)
   clear q1 q2 q3 ho hv hLd TW O2 V2 HSL
   go_wp2_with (at_builtin;refine aA rfl _ _ _ _ rfl rfl rfl rfl HR.o ?_)
   clear x0 x1 x2 x3 x4 HR
   generalize L++[az (pn:Int)]=L at*
   go_loopw [3,6] (λo i wr=>∃(y r c:Nat) (A:Option Addr) (M:List UInt8),y<=pn/\i=.int .i64 y/\o=.slice A r c/\M=L++(m.snaps.take y).flatMap cJ/\r<=q+1+14*y/\wr.ownsRow w1.heap.size 5 1 (.slice A r c) r (u8s M)/\VStep w1.heap.size w1 wr) (λ_ i _=>pn-(intOf i).toNat)
   case atStart=>exact⟨0,q+1,c6,A6,_,Nat.zero_le _,rfl,rfl,rfl,Nat.le_refl _,O6.o,V6.o⟩
   case round=>
    clear O6 V6
    obtain⟨y,r,c,A,M,hy,rfl,rfl,hMd,hr,ho,hv⟩:=hrel
    have TW:=HB1.trans (hv.below.mono (Nat.le_of_lt hz))
    obtain⟨x0,x1,x2,x3,x4⟩:=HX.o.keep hv.below hz
    dsimp only at x0 x1 x2 x3 x4
    by_cases hlt:y<pn
    ·obtain⟨b,o,s,tA,tn,tc,rfl,hb,hx,d0,d1,d2,hsv⟩:=HI.o.snaps.at_ (k:=y) hlt
     have d0:=(TW.cell (p:=⟨b,o+y*3,none⟩) hb).trans d0
     have d1:=(TW.cell (p:=⟨b,o+y*3+1,none⟩) hb).trans d1
     have d2:=(TW.cell (p:=⟨b,o+y*3+2,none⟩) hb).trans d2
     obtain⟨sd,st⟩:=HPL.o y s hx
     have HTK:=zh (show M++cJ s=L++(m.snaps.take (y+1)).flatMap cJ from by rw[hMd,List.take_add_one,hx];simp)
     have W5:=ac wr (.cells #[.string s.name,.int .i64 s.guest,.slice tA tn tc] 102)
     have X5:=heap_alloc_new wr (.cells #[.string s.name,.int .i64 s.guest,.slice tA tn tc] 102)
     have c0:=cell_of_row _ _ 0 _ _ _ X5
     simp only[List.getElem?_toArray,List.getElem?_cons_zero]at c0
     have O5:=zh (aI ho W5)
     have hws:=Nat.le_trans hv.below.size W5.size
     have V5:=zh (hv.trans (VStep.of W5 hv.below.size))
     have htl:=hsv.root.len
     have HRD:=zh (Rd.below hsv.root HB1 (Nat.le_refl _))
     have e0:(0:Int)<=(y:Int):=by omega
     have e1:(y:Int)<(pn:Int):=by omega
     clear W5 ho hv hsv hx hMd TW
     go_upto_region 14 with fail
     clear d0 d1 d2
     generalize wr.alloc (.cells #[.string s.name,.int .i64 s.guest,.slice tA tn tc] 102)=w5 at*
     obtain⟨A6,c6,w6,q1,q2,q3⟩:=lO O5.o (s.name.size:Int) (by omega) hws
     rw[show(s.name.size:Int)%256=s.name.size from by omega]at q1
     have HR:=zh q1
     have X6:=(q3.keep wr.heap.size 102 ⟨_,_,X5⟩ (by decide) (by decide)).trans X5
     have c1:=cell_of_row _ _ 0 _ _ _ X6
     simp only[List.getElem?_toArray,List.getElem?_cons_zero]at c1
     obtain⟨A7,c7,w7,t1,t2,t3⟩:=xz q2 s.name (by omega) (by omega) (Nat.le_trans hws q3.below.size)
     have HR7:=zh t1
     have X7:=(t3.keep wr.heap.size 102 ⟨_,_,X6⟩ (by decide) (by decide)).trans X6
     have c2:=cell_of_row _ _ 1 _ _ _ X7
     simp only[List.getElem?_toArray,List.getElem?_cons_zero,List.getElem?_cons_succ]at c2
     have hs7:=Nat.le_trans (Nat.le_trans hws q3.below.size) t3.below.size
     obtain⟨A8,c8,w8,u1,u2,u3⟩:=lO t2 s.guest (by omega) hs7
     have HR8:=zh u1
     have X8:=(u3.keep wr.heap.size 102 ⟨_,_,X7⟩ (by decide) (by decide)).trans X7
     have c3:=cell_of_row _ _ 2 _ _ _ X8
     simp only[List.getElem?_toArray,List.getElem?_cons_zero,List.getElem?_cons_succ]at c3
     have V8:=zh (V5.o.trans ((q3.trans t3).trans u3))
     have O8:=zh u2
     have h8:=V8.o.below.size
     have K8:=zh (jG tA tn tc s.root w8 ((Rd.below HRD.o V8.o.below (Nat.le_of_lt hz)).more (by omega)) (by omega))
     clear q1 q2 q3 t1 t2 t3 u1 u2 u3 X5 X6 X7 X8 O5 V5 HRD hws hs7
     go_upto_region 15 with(at_builtin;refine aA rfl _ _ _ _ rfl rfl rfl rfl HR.o ?_)
     clear c0 HR x0 x1 x2 x3 x4
     go_upto_region 16 with(at_builtin;refine jv rfl _ _ _ _ _ rfl rfl rfl rfl HR7.o ?_)
     clear c1 HR7
     go_upto_region 17 with(at_builtin;refine aA rfl _ _ _ _ rfl rfl rfl rfl HR8.o ?_)
     clear c2 HR8
     go_wp2_with fail
     refine K8.o.mono ?_
     rintro e w9 ⟨A9,c9,rfl,ho9,hb9⟩
     obtain⟨Az,cz,wz,t1,t2,t3⟩:=rm (d:=c9) (aI O8.o hb9) (Rd.of_own ho9) (by omega) (by omega) (by have:=hb9.size;omega)
     have HRz:=zh t1
     have Oz:=zh (show wz.ownsRow w1.heap.size 5 1 (.slice Az (r+1+s.name.size+1+tn) cz) (r+1+s.name.size+1+tn) (u8s (M++cJ s))from by rw[show M++cJ s=M++[az (s.name.size:Int)]++toL s.name++[az s.guest]++bA s.root from by simp[cJ]];exact t2)
     have Vz:=zh (V8.o.trans ((VStep.of hb9 h8).trans t3))
     clear t1 t2 t3 K8 O8 V8 ho9 hb9 c3
     go_wp2_with (at_builtin;refine aA rfl _ _ _ _ rfl rfl rfl rfl HRz.o ?_)
     go_roundw
     case rel=>exact⟨y+1,r+1+s.name.size+1+tn,cz,Az,M++cJ s,by omega,by go_num,rfl,HTK.o,by omega,Oz.o,Vz.o⟩
     case measure=>simp[intOf];omega
    ·obtain rfl:y=pn:=by omega
     rw[List.take_of_length_le (by omega)]at hMd
     have RM:=zh (show ea m=M++bA m.root from by rw[RR.o,hMd])
     have h8:=hv.below.size
     have hrl:=hR.len
     have K8:=zh (jG rA rn rc m.root wr ((Rd.below (Rd.below hR HB1 (Nat.le_refl _)) hv.below (Nat.le_of_lt hz)).more (by omega)) (by omega))
     have O8:=zh ho
     have V8:=zh hv
     clear ho hv TW hMd RR HPL
     go_wp2_with fail
     refine K8.o.mono ?_
     rintro e w9 ⟨A9,c9,rfl,ho9,hb9⟩
     obtain⟨Az,cz,wz,t1,t2,t3⟩:=rm (d:=c9) (aI O8.o hb9) (Rd.of_own ho9) (by omega) (by omega) (by have:=hb9.size;omega)
     have HRz:=zh t1
     rw[<-RM.o]at t2
     have hcv:=xx t2 (by unfold ea;simp)
     have TE:=zh (HB1.trans ((V8.o.trans ((VStep.of hb9 h8).trans t3)).below.mono (Nat.le_of_lt hz)))
     clear t1 t2 t3 K8 O8 V8 ho9 hb9 x0 x1 x2 x3 x4
     go_wp2_with (at_builtin;refine aA rfl _ _ _ _ rfl rfl rfl rfl HRz.o ?_)
     go_ret
     exact⟨rfl,TE.o⟩
end Go.Proofs.YtdbneghfbkjinaaGreatDoor
