/- Texts of the proof of deskPlays_holds: Pre. Conditions: as each text says. -/
import Derived.Below
import Derived.Deep.Draws
import Derived.Deep.RegionHeld
set_option maxRecDepth 100000
set_option maxHeartbeats 400000
theorem Go.RowKit.Hid.o {p:Prop} (h:Go.RowKit.Hid p):p:=h
theorem Go.Shut.o {p:Prop} (h:Go.Shut p):p:=h
theorem zh {p:Prop} (h:p):Go.RowKit.Hid p:=h
theorem zf {a b c d e:Prop} (A:a) (B:b) (C:c) (D:d) (E:e):Go.RowKit.Hid (a/\b/\c/\d/\e):=⟨A,B,C,D,E⟩
theorem zg {a b c d e f g:Prop} (A:a) (B:b) (C:c) (D:d) (E:e) (F:f) (G:g):Go.RowKit.Hid (a/\b/\c/\d/\e/\f/\g):=⟨A,B,C,D,E,F,G⟩
theorem za {α:Type _} {xs:Array α} {i:Nat} {a:α} (h:xs[i]? =some a):i<xs.size:=(Array.getElem?_eq_some_iff.1 h).1
theorem zl {α:Type _} {xs:List α} {i:Nat} {a:α} (h:xs[i]? =some a):i<xs.length:=(List.getElem?_eq_some_iff.1 h).1
open Go Go.RowKit in
theorem zb {B:Nat} {a w:World} (h:Below B a w) (n:Nat):Below B a (w.drewN n):=⟨h.os,h.tape,h.output,h.size,h.block⟩
