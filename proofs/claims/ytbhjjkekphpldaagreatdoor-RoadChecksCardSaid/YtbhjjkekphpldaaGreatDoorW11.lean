/- Walks by computing: what each function of the program that the laws reach gives for what it gets, as plain Lean, and that it is so; without a condition but those that stand in each theorem. -/
import Derived.Test.YtbhjjkekphpldaaGreatDoorW1
import Derived.Test.YtbhjjkekphpldaaGreatDoorW2
import Derived.Test.YtbhjjkekphpldaaGreatDoorW3
import Derived.Test.YtbhjjkekphpldaaGreatDoorW4
import Derived.Test.YtbhjjkekphpldaaGreatDoorW5
import Derived.Test.YtbhjjkekphpldaaGreatDoorW6
import Derived.Test.YtbhjjkekphpldaaGreatDoorW7
import Derived.Test.YtbhjjkekphpldaaGreatDoorW8
import Derived.Test.YtbhjjkekphpldaaGreatDoorW9
import Derived.Test.YtbhjjkekphpldaaGreatDoorW10
set_option linter.all false
namespace Go.Proofs.fu
open Go Go.Ab
open Go.Proofs.YtbhjjkekphpldaaGreatDoor (ae)
set_option linter.all false
set_option maxRecDepth 100000
noncomputable section
def Tu (it:It Bool) (n:Int) (low:Int) (high:Int):Option Bool :=
 bif (decide (low≤n)) then
 some (decide (n≤high))
 else
 some false
def f60 (n:Int) (low:Int) (high:Int):Option Bool:=bT (fun (a:aE [.int .i64,.int .i64,.int .i64])=>Tu aB a.1 a.2.1 a.2.2.1) (n,low,high,())
theorem aiF (n:Int) (low:Int) (high:Int):f60 n low high=Tu aB n low high:=bK
def AY:ak ae.toSeat:=cy 60 [.int .i64,.int .i64,.int .i64] [.bool] (en 15 [] [] []) Tryz.func60 (fun it a=>Tu it a.1 a.2.1 a.2.2.1) (by kernel_rfl) (by kernel_rfl) (fun _=>rfl) (aO _)
def ac3 (it:It Int) (r:iB) (J1:Int):Option Int :=
 bif (r.aS.Way == 2) then
 some (aj (r.length - J1))
 else
 some J1
def f100 (r:iB) (J1:Int):Option Int:=bT (fun (a:aE [.iB,.int .i64])=>ac3 aB a.1 a.2.1) (r,J1,())
def F9:ak ae.toSeat:=cy 100 [.iB,.int .i64] [.int .i64] (en 14 [] [] []) Tryz.func100 (fun it a=>ac3 it a.1 a.2.1) (by kernel_rfl) (by kernel_rfl) (fun _=>rfl) (aO _)
def W8 (s:aI) (n:Int) (x9:Int) (aT:Int→Int→Option Int):Option Int :=
 bif (decide (x9<(s.Reaches.length:Int))) then
 ao (decide (0≤x9)&&decide (x9<(s.Reaches.length:Int))) <|
 aT (aj (n+(s.Reaches.getD x9.toNat b6).s8)) (aj (x9+1))
 else
 some n
def Tv (it:It Int) (s:aI):Option Int :=
 it _ (fun (v_0:(Int×Int×Unit)×(Unit)) kn=>W8 s v_0.1.1 v_0.1.2.1 (fun y0 y1=>kn ((y0,y1,()),(())))) ((0,0,()),(()))
def f61 (s:aI):Option Int:=bT (fun (a:aE [.aI])=>Tv aB a.1) (s,())
theorem aiG (s:aI):f61 s=Tv aB s:=bK
def acp:ak ae.toSeat:=cy 61 [.aI] [.int .i64] (en 19 [] [] [(3,⟨⟨[(3,.v (.int .i64)),(9,.v (.int .i64))],[]⟩,[7,8],[],[]⟩)]) Tryz.func61 (fun it a=>Tv it a.1) (by kernel_rfl) (by kernel_rfl) (fun _=>rfl) (aO _)
def Qq (s:aI) (OT:Int) (cW:Int→Option Int):Option Int :=
 bif (decide (OT<3)) then
 bif OT == 0 then
 (f60 s.eW.a 0 50).bind fun r7 =>
 bif (!r7) then
 some 2
 else
 cW (aj (OT+1))
 else
 bif OT == 1 then
 (f60 s.eW.b 0 50).bind fun r8 =>
 bif (!r8) then
 some 2
 else
 cW (aj (OT+1))
 else
 bif OT == 2 then
 (f60 s.eW.c 0 50).bind fun r9 =>
 bif (!r9) then
 some 2
 else
 cW (aj (OT+1))
 else
 none
 else
 some 0
def WW (it:It Int) (s:aI) (Gf:Int) (aT:Int→Option Int):Option Int :=
 bif (decide (Gf<(s.Reaches.length:Int))) then
 ao (decide (0≤Gf)&&decide (Gf<(s.Reaches.length:Int))) <|
 (f60 ((s.Reaches.getD Gf.toNat b6).s8) 1 1000).bind fun r =>
 bif (!r) then
 some 2
 else
 (f60 ((s.Reaches.getD Gf.toNat b6).uv) 0 3000).bind fun r2 =>
 bif (!r2) then
 some 2
 else
 (f60 ((s.Reaches.getD Gf.toNat b6).yR) 0 1000).bind fun r3 =>
 bif (!r3) then
 some 2
 else
 (f60 ((s.Reaches.getD Gf.toNat b6).Grow) 0 1000).bind fun r4 =>
 bif (!r4) then
 some 2
 else
 (f60 ((s.Reaches.getD Gf.toNat b6).uo) 0 10000).bind fun r5 =>
 bif (!r5) then
 some 2
 else
 aT (aj (Gf+1))
 else
 (f61 s).bind fun r6 =>
 bif (decide (r6 > 1000)) then
 some 8
 else
 it _ (fun (v_0:(Int×Unit)×(Unit)) kn=>Qq s v_0.1.1 (fun y0=>kn ((y0,()),(())))) ((0,()),(()))
def SX (it:It Int) (s:aI):Option Int :=
 bif ((s.Reaches.length:Int) == 0) then
 some 6
 else
 bif (decide ((s.Reaches.length:Int) > 20)) then
 some 8
 else
 it _ (fun (v_0:(Unit×Int×Unit)×(Unit)) kn=>WW it s v_0.1.2.1 (fun y0=>kn (((),y0,()),(())))) (((),0,()),(()))
def f26 (s:aI):Option Int:=bT (fun (a:aE [.aI])=>SX aB a.1) (s,())
theorem aif (s:aI):f26 s=SX aB s:=bK
def Vz:ak ae.toSeat:=cy 26 [.aI] [.int .i64] (en 65 [AY,acp] [] [(6,⟨⟨[(1,.bx 1 0),(20,.v (.int .i64))],[]⟩,[18,19],[1],[]⟩),(14,⟨⟨[(58,.v (.int .i64))],[]⟩,[57],[],[]⟩)]) Tryz.func26 (fun it a=>SX it a.1) (by kernel_rfl) (by kernel_rfl) (fun _=>rfl) (aO _)
def Tt (it:It Bool) (n:Int) (low:Int) (high:Int):Option Bool :=
 bif (decide (n ≥ low)) then
 some (decide (n≤high))
 else
 some false
def f53 (n:Int) (low:Int) (high:Int):Option Bool:=bT (fun (a:aE [.int .i64,.int .i64,.int .i64])=>Tt aB a.1 a.2.1 a.2.2.1) (n,low,high,())
theorem W6 (n:Int) (low:Int) (high:Int):f53 n low high=Tt aB n low high:=bK
def asO:ak ae.toSeat:=cy 53 [.int .i64,.int .i64,.int .i64] [.bool] (en 15 [] [] []) Tryz.func53 (fun it a=>Tt it a.1 a.2.1 a.2.2.1) (by kernel_rfl) (by kernel_rfl) (fun _=>rfl) (aO _)
def LV (s:aI) (n:Int) (i:Int) (aT:Int→Int→Option Int):Option Int :=
 bif (decide (i<(s.Reaches.length:Int))) then
 ao (decide (0≤i)&&decide (i<(s.Reaches.length:Int))) <|
 aT (aj (n+(s.Reaches.getD i.toNat b6).s8)) (aj (i+1))
 else
 some n
def LU (it:It Int) (s:aI):Option Int :=
 it _ (fun (v_0:(Unit×Int×Int×Unit)×(Unit)) kn=>LV s v_0.1.2.1 v_0.1.2.2.1 (fun y0 y1=>kn (((),y0,y1,()),(())))) (((),0,0,()),(()))
def f15 (s:aI):Option Int:=bT (fun (a:aE [.aI])=>LU aB a.1) (s,())
theorem WT (s:aI):f15 s=LU aB s:=bK
def acb:ak ae.toSeat:=cy 15 [.aI] [.int .i64] (en 21 [] [] [(3,⟨⟨[(1,.bx 1 0),(3,.v (.int .i64)),(4,.v (.int .i64))],[]⟩,[],[1],[]⟩)]) Tryz.func15 (fun it a=>LU it a.1) (by kernel_rfl) (by kernel_rfl) (fun _=>rfl) (aO _)
def Qp (s:aI) (i2:Int) (cW:Int→Option Int):Option Int :=
 bif (decide (i2<3)) then
 bif i2 == 0 then
 (f53 s.eW.a 0 50).bind fun r7 =>
 bif (!r7) then
 some 2
 else
 cW (aj (i2+1))
 else
 bif i2 == 1 then
 (f53 s.eW.b 0 50).bind fun r8 =>
 bif (!r8) then
 some 2
 else
 cW (aj (i2+1))
 else
 bif i2 == 2 then
 (f53 s.eW.c 0 50).bind fun r9 =>
 bif (!r9) then
 some 2
 else
 cW (aj (i2+1))
 else
 none
 else
 some 0
def WU (it:It Int) (s:aI) (i:Int) (aT:Int→Option Int):Option Int :=
 bif (decide (i<(s.Reaches.length:Int))) then
 ao (decide (0≤i)&&decide (i<(s.Reaches.length:Int))) <|
 (f53 ((s.Reaches.getD i.toNat b6).s8) 1 1000).bind fun r =>
 bif (!r) then
 some 2
 else
 (f53 ((s.Reaches.getD i.toNat b6).uv) 0 3000).bind fun r2 =>
 bif (!r2) then
 some 2
 else
 (f53 ((s.Reaches.getD i.toNat b6).yR) 0 1000).bind fun r3 =>
 bif (!r3) then
 some 2
 else
 (f53 ((s.Reaches.getD i.toNat b6).Grow) 0 1000).bind fun r4 =>
 bif (!r4) then
 some 2
 else
 (f53 ((s.Reaches.getD i.toNat b6).uo) 0 10000).bind fun r5 =>
 bif (!r5) then
 some 2
 else
 aT (aj (i+1))
 else
 (f15 s).bind fun r6 =>
 bif (decide (r6 > 1000)) then
 some 8
 else
 it _ (fun (v_0:(Unit×Int×Unit)×(Unit)) kn=>Qp s v_0.1.2.1 (fun y0=>kn (((),y0,()),(())))) (((),0,()),(()))
def SV (it:It Int) (s:aI):Option Int :=
 bif ((s.Reaches.length:Int) == 0) then
 some 6
 else
 bif (decide ((s.Reaches.length:Int) > 20)) then
 some 8
 else
 it _ (fun (v_0:(Unit×Int×Unit)×(Unit)) kn=>WU it s v_0.1.2.1 (fun y0=>kn (((),y0,()),(())))) (((),0,()),(()))
def f16 (s:aI):Option Int:=bT (fun (a:aE [.aI])=>SV aB a.1) (s,())
theorem aid (s:aI):f16 s=SV aB s:=bK
def alP:ak ae.toSeat:=cy 16 [.aI] [.int .i64] (en 67 [asO,acb] [] [(6,⟨⟨[(1,.bx 1 0),(3,.v (.int .i64))],[]⟩,[],[1],[]⟩),(14,⟨⟨[(1,.bx 1 0),(5,.v (.int .i64))],[]⟩,[],[1],[]⟩)]) Tryz.func16 (fun it a=>SV it a.1) (by kernel_rfl) (by kernel_rfl) (fun _=>rfl) (aO _)
def Ty (it:It Bool) (n:Int) (low:Int) (high:Int):Option Bool :=
 bif (decide (low≤n)) then
 some (decide (n≤high))
 else
 some false
def f64 (n:Int) (low:Int) (high:Int):Option Bool:=bT (fun (a:aE [.int .i64,.int .i64,.int .i64])=>Ty aB a.1 a.2.1 a.2.2.1) (n,low,high,())
theorem aiK (n:Int) (low:Int) (high:Int):f64 n low high=Ty aB n low high:=bK
def OD:ak ae.toSeat:=cy 64 [.int .i64,.int .i64,.int .i64] [.bool] (en 15 [] [] []) Tryz.func64 (fun it a=>Ty it a.1 a.2.1 a.2.2.1) (by kernel_rfl) (by kernel_rfl) (fun _=>rfl) (aO _)
def Tw (it:It Int) (x:Span) (low:Int) (high:Int):Option Int :=
 bif (decide (x.Lo<low)) then
 some 2
 else
 bif (decide (x.Lo > high)) then
 some 2
 else
 bif (decide (x.Hi<low)) then
 some 2
 else
 bif (decide (x.Hi > high)) then
 some 2
 else
 bif (decide (x.Lo > x.Hi)) then
 some 11
 else
 some 0
def f62 (x:Span) (low:Int) (high:Int):Option Int:=bT (fun (a:aE [.Span,.int .i64,.int .i64])=>Tw aB a.1 a.2.1 a.2.2.1) (x,low,high,())
theorem aiH (x:Span) (low:Int) (high:Int):f62 x low high=Tw aB x low high:=bK
def VD:ak ae.toSeat:=cy 62 [.Span,.int .i64,.int .i64] [.int .i64] (en 36 [] [] []) Tryz.func62 (fun it a=>Tw it a.1 a.2.1 a.2.2.1) (by kernel_rfl) (by kernel_rfl) (fun _=>rfl) (aO _)
def W9 (l:List bq) (b8:Int) (aT:Int→Option Int):Option Int :=
 bif (decide (b8<(l.length:Int))) then
 ao (decide (0≤b8)&&decide (b8<(l.length:Int))) <|
 bif (decide ((l.getD b8.toNat aM).bu<0)) then
 some 2
 else
 bif (decide ((l.getD b8.toNat aM).bu > 10000)) then
 some 2
 else
 bif (b8 == 0) then
 bif ((l.getD b8.toNat aM).bu != 0) then
 some 11
 else
 bif (decide (b8 > 0)) then
 ao (decide (0≤(aj (b8 - 1)))&&decide ((aj (b8 - 1))<(l.length:Int))) <|
 bif (decide ((l.getD b8.toNat aM).bu≤(l.getD (aj (b8 - 1)).toNat aM).bu)) then
 some 11
 else
 bif (decide ((l.getD b8.toNat aM).Part<0)) then
 some 2
 else
 bif (decide ((l.getD b8.toNat aM).Part > 1000000)) then
 some 2
 else
 bif (b8 == 0) then
 bif ((l.getD b8.toNat aM).Part != 1000000) then
 some 3
 else
 bif (decide (b8 > 0)) then
 ao (decide (0≤(aj (b8 - 1)))&&decide ((aj (b8 - 1))<(l.length:Int))) <|
 bif (decide ((l.getD b8.toNat aM).Part > (l.getD (aj (b8 - 1)).toNat aM).Part)) then
 some 11
 else
 aT (aj (b8+1))
 else
 aT (aj (b8+1))
 else
 bif (decide (b8 > 0)) then
 ao (decide (0≤(aj (b8 - 1)))&&decide ((aj (b8 - 1))<(l.length:Int))) <|
 bif (decide ((l.getD b8.toNat aM).Part > (l.getD (aj (b8 - 1)).toNat aM).Part)) then
 some 11
 else
 aT (aj (b8+1))
 else
 aT (aj (b8+1))
 else
 bif (decide ((l.getD b8.toNat aM).Part<0)) then
 some 2
 else
 bif (decide ((l.getD b8.toNat aM).Part > 1000000)) then
 some 2
 else
 bif (b8 == 0) then
 bif ((l.getD b8.toNat aM).Part != 1000000) then
 some 3
 else
 bif (decide (b8 > 0)) then
 ao (decide (0≤(aj (b8 - 1)))&&decide ((aj (b8 - 1))<(l.length:Int))) <|
 bif (decide ((l.getD b8.toNat aM).Part > (l.getD (aj (b8 - 1)).toNat aM).Part)) then
 some 11
 else
 aT (aj (b8+1))
 else
 aT (aj (b8+1))
 else
 bif (decide (b8 > 0)) then
 ao (decide (0≤(aj (b8 - 1)))&&decide ((aj (b8 - 1))<(l.length:Int))) <|
 bif (decide ((l.getD b8.toNat aM).Part > (l.getD (aj (b8 - 1)).toNat aM).Part)) then
 some 11
 else
 aT (aj (b8+1))
 else
 aT (aj (b8+1))
 else
 bif (decide (b8 > 0)) then
 ao (decide (0≤(aj (b8 - 1)))&&decide ((aj (b8 - 1))<(l.length:Int))) <|
 bif (decide ((l.getD b8.toNat aM).bu≤(l.getD (aj (b8 - 1)).toNat aM).bu)) then
 some 11
 else
 bif (decide ((l.getD b8.toNat aM).Part<0)) then
 some 2
 else
 bif (decide ((l.getD b8.toNat aM).Part > 1000000)) then
 some 2
 else
 bif (b8 == 0) then
 bif ((l.getD b8.toNat aM).Part != 1000000) then
 some 3
 else
 bif (decide (b8 > 0)) then
 ao (decide (0≤(aj (b8 - 1)))&&decide ((aj (b8 - 1))<(l.length:Int))) <|
 bif (decide ((l.getD b8.toNat aM).Part > (l.getD (aj (b8 - 1)).toNat aM).Part)) then
 some 11
 else
 aT (aj (b8+1))
 else
 aT (aj (b8+1))
 else
 bif (decide (b8 > 0)) then
 ao (decide (0≤(aj (b8 - 1)))&&decide ((aj (b8 - 1))<(l.length:Int))) <|
 bif (decide ((l.getD b8.toNat aM).Part > (l.getD (aj (b8 - 1)).toNat aM).Part)) then
 some 11
 else
 aT (aj (b8+1))
 else
 aT (aj (b8+1))
 else
 bif (decide ((l.getD b8.toNat aM).Part<0)) then
 some 2
 else
 bif (decide ((l.getD b8.toNat aM).Part > 1000000)) then
 some 2
 else
 bif (b8 == 0) then
 bif ((l.getD b8.toNat aM).Part != 1000000) then
 some 3
 else
 bif (decide (b8 > 0)) then
 ao (decide (0≤(aj (b8 - 1)))&&decide ((aj (b8 - 1))<(l.length:Int))) <|
 bif (decide ((l.getD b8.toNat aM).Part > (l.getD (aj (b8 - 1)).toNat aM).Part)) then
 some 11
 else
 aT (aj (b8+1))
 else
 aT (aj (b8+1))
 else
 bif (decide (b8 > 0)) then
 ao (decide (0≤(aj (b8 - 1)))&&decide ((aj (b8 - 1))<(l.length:Int))) <|
 bif (decide ((l.getD b8.toNat aM).Part > (l.getD (aj (b8 - 1)).toNat aM).Part)) then
 some 11
 else
 aT (aj (b8+1))
 else
 aT (aj (b8+1))
 else
 some 0
def Tx (it:It Int) (l:List bq):Option Int :=
 bif ((l.length:Int) == 0) then
 some 6
 else
 bif (decide ((l.length:Int) > 20)) then
 some 8
 else
 it _ (fun (v_0:(Int×Unit)×(Unit)) kn=>W9 l v_0.1.1 (fun y0=>kn ((y0,()),(())))) ((0,()),(()))
def f63 (l:List bq):Option Int:=bT (fun (a:aE [.sl .bq])=>Tx aB a.1) (l,())
theorem aiJ (l:List bq):f63 l=Tx aB l:=bK
def acq:ak ae.toSeat:=cy 63 [.sl .bq] [.int .i64] (en 84 [] [] [(6,⟨⟨[(15,.v (.int .i64))],[]⟩,[0,13,14],[],[]⟩)]) Tryz.func63 (fun it a=>Tx it a.1) (by kernel_rfl) (by kernel_rfl) (fun _=>rfl) (aO _)
def SZ (it:It Int) (p:aN):Option Int :=
 (f62 p.fm 1 100000).bind fun r =>
 bif (r != 0) then
 some r
 else
 (f63 p.fS).bind fun r2 =>
 bif (r2 != 0) then
 some r2
 else
 (f63 p.iv).bind fun r3 =>
 bif (r3 != 0) then
 some r3
 else
 (f64 p.vi 0 10000).bind fun r4 =>
 bif (!r4) then
 bif (!r4) then
 some 2
 else
 bif (decide (p.pA > p.kZ)) then
 some 11
 else
 (f64 p.kl 0 10000).bind fun r5 =>
 bif (!r5) then
 bif (!r5) then
 some 2
 else
 some 0
 else
 (f64 p.ko 0 1000000).bind fun r6 =>
 bif (!r6) then
 some 2
 else
 some 0
 else
 (f64 p.Edge 0 1000000).bind fun r7 =>
 bif (!r7) then
 bif (!r7) then
 some 2
 else
 bif (decide (p.pA > p.kZ)) then
 some 11
 else
 (f64 p.kl 0 10000).bind fun r8 =>
 bif (!r8) then
 bif (!r8) then
 some 2
 else
 some 0
 else
 (f64 p.ko 0 1000000).bind fun r9 =>
 bif (!r9) then
 some 2
 else
 some 0
 else
 (f64 p.jS 1 1000).bind fun dN =>
 bif (!dN) then
 bif (!dN) then
 some 2
 else
 bif (decide (p.pA > p.kZ)) then
 some 11
 else
 (f64 p.kl 0 10000).bind fun jC =>
 bif (!jC) then
 bif (!jC) then
 some 2
 else
 some 0
 else
 (f64 p.ko 0 1000000).bind fun fX =>
 bif (!fX) then
 some 2
 else
 some 0
 else
 (f64 p.pA 1 4000000).bind fun jD =>
 bif (!jD) then
 bif (!jD) then
 some 2
 else
 bif (decide (p.pA > p.kZ)) then
 some 11
 else
 (f64 p.kl 0 10000).bind fun j7 =>
 bif (!j7) then
 bif (!j7) then
 some 2
 else
 some 0
 else
 (f64 p.ko 0 1000000).bind fun jo =>
 bif (!jo) then
 some 2
 else
 some 0
 else
 (f64 p.kZ 1 4000000).bind fun nP =>
 bif (!nP) then
 some 2
 else
 bif (decide (p.pA > p.kZ)) then
 some 11
 else
 (f64 p.kl 0 10000).bind fun nr =>
 bif (!nr) then
 bif (!nr) then
 some 2
 else
 some 0
 else
 (f64 p.ko 0 1000000).bind fun nQ =>
 bif (!nQ) then
 some 2
 else
 some 0
def f28 (p:aN):Option Int:=bT (fun (a:aE [.aN])=>SZ aB a.1) (p,())
theorem aii (p:aN):f28 p=SZ aB p:=bK
def OA:ak ae.toSeat:=cy 28 [.aN] [.int .i64] (en 60 [VD,acq,OD] [] []) Tryz.func28 (fun it a=>SZ it a.1) (by kernel_rfl) (by kernel_rfl) (fun _=>rfl) (aO _)
def TP (it:It Bool) (n:Int) (low:Int) (high:Int):Option Bool :=
 bif (decide (n<low)) then
 some true
 else
 some (decide (n > high))
def f83 (n:Int) (low:Int) (high:Int):Option Bool:=bT (fun (a:aE [.int .i64,.int .i64,.int .i64])=>TP aB a.1 a.2.1 a.2.2.1) (n,low,high,())
theorem LZ (n:Int) (low:Int) (high:Int):f83 n low high=TP aB n low high:=bK
def acz:ak ae.toSeat:=cy 83 [.int .i64,.int .i64,.int .i64] [.bool] (en 15 [] [] []) Tryz.func83 (fun it a=>TP it a.1 a.2.1 a.2.2.1) (by kernel_rfl) (by kernel_rfl) (fun _=>rfl) (aO _)
def LY (it:It Int) (x:Span) (low:Int) (high:Int):Option Int :=
 (f83 x.Lo low high).bind fun r =>
 bif r then
 some 2
 else
 (f83 x.Hi low high).bind fun r2 =>
 bif r2 then
 some 2
 else
 bif (decide (x.Lo > x.Hi)) then
 some 11
 else
 some 0
def f81 (x:Span) (low:Int) (high:Int):Option Int:=bT (fun (a:aE [.Span,.int .i64,.int .i64])=>LY aB a.1 a.2.1 a.2.2.1) (x,low,high,())
theorem Xf (x:Span) (low:Int) (high:Int):f81 x low high=LY aB x low high:=bK
def asU:ak ae.toSeat:=cy 81 [.Span,.int .i64,.int .i64] [.int .i64] (en 24 [acz] [] []) Tryz.func81 (fun it a=>LY it a.1 a.2.1 a.2.2.1) (by kernel_rfl) (by kernel_rfl) (fun _=>rfl) (aO _)
def Xh (l:List bq) (i:Int) (aT:Int→Option Int):Option Int :=
 bif (decide (i<(l.length:Int))) then
 ao (decide (0≤i)&&decide (i<(l.length:Int))) <|
 (f83 ((l.getD i.toNat aM).bu) 0 10000).bind fun r =>
 bif r then
 some 2
 else
 bif (i == 0) then
 ao (decide (0≤i)&&decide (i<(l.length:Int))) <|
 bif ((l.getD i.toNat aM).bu != 0) then
 some 11
 else
 bif (decide (i > 0)) then
 ao (decide (0≤i)&&decide (i<(l.length:Int))) <|
 ao (decide (0≤(aj (i - 1)))&&decide ((aj (i - 1))<(l.length:Int))) <|
 bif (decide ((l.getD i.toNat aM).bu≤(l.getD (aj (i - 1)).toNat aM).bu)) then
 some 11
 else
 ao (decide (0≤i)&&decide (i<(l.length:Int))) <|
 (f83 ((l.getD i.toNat aM).Part) 0 1000000).bind fun r2 =>
 bif r2 then
 some 2
 else
 bif (i == 0) then
 ao (decide (0≤i)&&decide (i<(l.length:Int))) <|
 bif ((l.getD i.toNat aM).Part != 1000000) then
 some 3
 else
 bif (decide (i > 0)) then
 ao (decide (0≤i)&&decide (i<(l.length:Int))) <|
 ao (decide (0≤(aj (i - 1)))&&decide ((aj (i - 1))<(l.length:Int))) <|
 bif (decide ((l.getD i.toNat aM).Part > (l.getD (aj (i - 1)).toNat aM).Part)) then
 some 11
 else
 aT (aj (i+1))
 else
 aT (aj (i+1))
 else
 bif (decide (i > 0)) then
 ao (decide (0≤i)&&decide (i<(l.length:Int))) <|
 ao (decide (0≤(aj (i - 1)))&&decide ((aj (i - 1))<(l.length:Int))) <|
 bif (decide ((l.getD i.toNat aM).Part > (l.getD (aj (i - 1)).toNat aM).Part)) then
 some 11
 else
 aT (aj (i+1))
 else
 aT (aj (i+1))
 else
 ao (decide (0≤i)&&decide (i<(l.length:Int))) <|
 (f83 ((l.getD i.toNat aM).Part) 0 1000000).bind fun r3 =>
 bif r3 then
 some 2
 else
 bif (i == 0) then
 ao (decide (0≤i)&&decide (i<(l.length:Int))) <|
 bif ((l.getD i.toNat aM).Part != 1000000) then
 some 3
 else
 bif (decide (i > 0)) then
 ao (decide (0≤i)&&decide (i<(l.length:Int))) <|
 ao (decide (0≤(aj (i - 1)))&&decide ((aj (i - 1))<(l.length:Int))) <|
 bif (decide ((l.getD i.toNat aM).Part > (l.getD (aj (i - 1)).toNat aM).Part)) then
 some 11
 else
 aT (aj (i+1))
 else
 aT (aj (i+1))
 else
 bif (decide (i > 0)) then
 ao (decide (0≤i)&&decide (i<(l.length:Int))) <|
 ao (decide (0≤(aj (i - 1)))&&decide ((aj (i - 1))<(l.length:Int))) <|
 bif (decide ((l.getD i.toNat aM).Part > (l.getD (aj (i - 1)).toNat aM).Part)) then
 some 11
 else
 aT (aj (i+1))
 else
 aT (aj (i+1))
 else
 bif (decide (i > 0)) then
 ao (decide (0≤i)&&decide (i<(l.length:Int))) <|
 ao (decide (0≤(aj (i - 1)))&&decide ((aj (i - 1))<(l.length:Int))) <|
 bif (decide ((l.getD i.toNat aM).bu≤(l.getD (aj (i - 1)).toNat aM).bu)) then
 some 11
 else
 ao (decide (0≤i)&&decide (i<(l.length:Int))) <|
 (f83 ((l.getD i.toNat aM).Part) 0 1000000).bind fun r4 =>
 bif r4 then
 some 2
 else
 bif (i == 0) then
 ao (decide (0≤i)&&decide (i<(l.length:Int))) <|
 bif ((l.getD i.toNat aM).Part != 1000000) then
 some 3
 else
 bif (decide (i > 0)) then
 ao (decide (0≤i)&&decide (i<(l.length:Int))) <|
 ao (decide (0≤(aj (i - 1)))&&decide ((aj (i - 1))<(l.length:Int))) <|
 bif (decide ((l.getD i.toNat aM).Part > (l.getD (aj (i - 1)).toNat aM).Part)) then
 some 11
 else
 aT (aj (i+1))
 else
 aT (aj (i+1))
 else
 bif (decide (i > 0)) then
 ao (decide (0≤i)&&decide (i<(l.length:Int))) <|
 ao (decide (0≤(aj (i - 1)))&&decide ((aj (i - 1))<(l.length:Int))) <|
 bif (decide ((l.getD i.toNat aM).Part > (l.getD (aj (i - 1)).toNat aM).Part)) then
 some 11
 else
 aT (aj (i+1))
 else
 aT (aj (i+1))
 else
 ao (decide (0≤i)&&decide (i<(l.length:Int))) <|
 (f83 ((l.getD i.toNat aM).Part) 0 1000000).bind fun r5 =>
 bif r5 then
 some 2
 else
 bif (i == 0) then
 ao (decide (0≤i)&&decide (i<(l.length:Int))) <|
 bif ((l.getD i.toNat aM).Part != 1000000) then
 some 3
 else
 bif (decide (i > 0)) then
 ao (decide (0≤i)&&decide (i<(l.length:Int))) <|
 ao (decide (0≤(aj (i - 1)))&&decide ((aj (i - 1))<(l.length:Int))) <|
 bif (decide ((l.getD i.toNat aM).Part > (l.getD (aj (i - 1)).toNat aM).Part)) then
 some 11
 else
 aT (aj (i+1))
 else
 aT (aj (i+1))
 else
 bif (decide (i > 0)) then
 ao (decide (0≤i)&&decide (i<(l.length:Int))) <|
 ao (decide (0≤(aj (i - 1)))&&decide ((aj (i - 1))<(l.length:Int))) <|
 bif (decide ((l.getD i.toNat aM).Part > (l.getD (aj (i - 1)).toNat aM).Part)) then
 some 11
 else
 aT (aj (i+1))
 else
 aT (aj (i+1))
 else
 some 0
def TO (it:It Int) (l:List bq):Option Int :=
 bif ((l.length:Int) == 0) then
 some 6
 else
 bif (decide ((l.length:Int) > 20)) then
 some 8
 else
 it _ (fun (v_0:(Int×Unit)×(Unit)) kn=>Xh l v_0.1.1 (fun y0=>kn ((y0,()),(())))) ((0,()),(()))
def f82 (l:List bq):Option Int:=bT (fun (a:aE [.sl .bq])=>TO aB a.1) (l,())
theorem ai5 (l:List bq):f82 l=TO aB l:=bK
def asV:ak ae.toSeat:=cy 82 [.sl .bq] [.int .i64] (en 82 [acz] [] [(6,⟨⟨[(3,.v (.int .i64))],[]⟩,[0],[],[]⟩)]) Tryz.func82 (fun it a=>TO it a.1) (by kernel_rfl) (by kernel_rfl) (fun _=>rfl) (aO _)
def Tk (it:It Int) (p:aN):Option Int :=
 (f81 p.fm 1 100000).bind fun r =>
 bif (r != 0) then
 some r
 else
 (f82 p.fS).bind fun r2 =>
 bif (r2 != 0) then
 some r2
 else
 (f82 p.iv).bind fun r3 =>
 bif (r3 != 0) then
 some r3
 else
 (f83 p.vi 0 10000).bind fun r4 =>
 bif r4 then
 some 2
 else
 (f83 p.Edge 0 1000000).bind fun r5 =>
 bif r5 then
 some 2
 else
 (f83 p.jS 1 1000).bind fun r6 =>
 bif r6 then
 some 2
 else
 (f83 p.pA 1 4000000).bind fun r7 =>
 bif r7 then
 some 2
 else
 (f83 p.kZ 1 4000000).bind fun r8 =>
 bif r8 then
 some 2
 else
 bif (decide (p.pA > p.kZ)) then
 some 11
 else
 (f83 p.kl 0 10000).bind fun r9 =>
 bif r9 then
 some 2
 else
 (f83 p.ko 0 1000000).bind fun dN =>
 bif dN then
 some 2
 else
 some 0
def f42 (p:aN):Option Int:=bT (fun (a:aE [.aN])=>Tk aB a.1) (p,())
theorem aiw (p:aN):f42 p=Tk aB p:=bK
def asD:ak ae.toSeat:=cy 42 [.aN] [.int .i64] (en 60 [asU,asV,acz] [] []) Tryz.func42 (fun it a=>Tk it a.1) (by kernel_rfl) (by kernel_rfl) (fun _=>rfl) (aO _)
def Tz (it:It Bool) (n:Int) (low:Int) (high:Int):Option Bool :=
 bif (decide (low≤n)) then
 some (decide (n≤high))
 else
 some false
def f65 (n:Int) (low:Int) (high:Int):Option Bool:=bT (fun (a:aE [.int .i64,.int .i64,.int .i64])=>Tz aB a.1 a.2.1 a.2.2.1) (n,low,high,())
theorem aiM (n:Int) (low:Int) (high:Int):f65 n low high=Tz aB n low high:=bK
def HA:ak ae.toSeat:=cy 65 [.int .i64,.int .i64,.int .i64] [.bool] (en 15 [] [] []) Tryz.func65 (fun it a=>Tz it a.1 a.2.1 a.2.2.1) (by kernel_rfl) (by kernel_rfl) (fun _=>rfl) (aO _)
def afN (t:aS) (c:bI) (yJ:Int) (aT:Int→Option Int):Option Int :=
 bif (decide (yJ<(t.Holds.length:Int))) then
 ao (decide (0≤yJ)&&decide (yJ<(t.Holds.length:Int))) <|
 (f65 ((t.Holds.getD yJ.toNat eH).At) 1 (aj (c.Length - 1))).bind fun r5 =>
 bif (!r5) then
 some 2
 else
 (f65 ((t.Holds.getD yJ.toNat eH).D3) 0 10000).bind fun r6 =>
 bif (!r6) then
 some 2
 else
 bif (decide (yJ > 0)) then
 (f100 (⟨t,c.Length⟩:iB) ((t.Holds.getD yJ.toNat eH).At)).bind fun r7 =>
 ao (decide (0≤(aj (yJ - 1)))&&decide ((aj (yJ - 1))<(t.Holds.length:Int))) <|
 (f100 (⟨t,c.Length⟩:iB) ((t.Holds.getD (aj (yJ - 1)).toNat eH).At)).bind fun r8 =>
 bif (decide (r7≤r8)) then
 some 11
 else
 aT (aj (yJ+1))
 else
 aT (aj (yJ+1))
 else
 some 0
def TA (it:It Int) (c:bI) (t:aS):Option Int :=
 (f65 t.Way 1 2).bind fun r =>
 bif (!r) then
 some 4
 else
 (f65 t.Start 0 10000).bind fun r2 =>
 bif (!r2) then
 some 2
 else
 (f65 t.b9.Lo 1 1000).bind fun r3 =>
 bif (!r3) then
 some 2
 else
 (f65 t.b9.Hi 1 1000).bind fun r4 =>
 bif (!r4) then
 some 2
 else
 bif (decide (t.b9.Lo > t.b9.Hi)) then
 some 11
 else
 bif (decide (c.Length > (aj (1000 * t.b9.Lo)))) then
 some 13
 else
 bif (decide (c.iV<(aj (2 * t.b9.Hi)))) then
 some 12
 else
 bif (decide ((t.Holds.length:Int) > 8)) then
 some 8
 else
 it _ (fun (v_0:(Unit×Unit×Unit×Int×Unit)×(Unit)) kn=>afN t c v_0.1.2.2.2.1 (fun y0=>kn (((),(),(),y0,()),(())))) (((),(),(),0,()),(()))
def f66 (c:bI) (t:aS):Option Int:=bT (fun (a:aE [.bI,.aS])=>TA aB a.1 a.2.1) (c,t,())
theorem aiN (c:bI) (t:aS):f66 c t=TA aB c t:=bK
def VE:ak ae.toSeat:=cy 66 [.bI,.aS] [.int .i64] (en 107 [HA,F9] [] [(15,⟨⟨[(2,.bx 2 0),(3,.bx 3 0),(5,.bx 5 0),(68,.v (.int .i64))],[]⟩,[66,67],[2,3,5],[]⟩)]) Tryz.func66 (fun it a=>TA it a.1 a.2.1) (by kernel_rfl) (by kernel_rfl) (fun _=>rfl) (aO _)
def WX (c:bI) (ZN:Int) (aT:Int→Option Int):Option Int :=
 bif (decide (ZN<(c.mB.length:Int))) then
 ao (decide (0≤ZN)&&decide (ZN<(c.mB.length:Int))) <|
 (f66 c (c.mB.getD ZN.toNat mK)).bind fun r4 =>
 bif (r4 != 0) then
 some r4
 else
 aT (aj (ZN+1))
 else
 some 0
def S6 (it:It Int) (c:bI):Option Int :=
 (f65 c.Length 1 100000).bind fun r =>
 bif (!r) then
 some 2
 else
 (f65 c.iV 1 100000).bind fun r2 =>
 bif (!r2) then
 some 2
 else
 (f65 c.fj 0 20).bind fun r3 =>
 bif (!r3) then
 some 2
 else
 bif (decide ((c.mB.length:Int) > 20)) then
 some 8
 else
 it _ (fun (v_0:(Unit×Int×Unit)×(Unit)) kn=>WX c v_0.1.2.1 (fun y0=>kn (((),y0,()),(())))) (((),0,()),(()))
def f30 (c:bI):Option Int:=bT (fun (a:aE [.bI])=>S6 aB a.1) (c,())
theorem aik (c:bI):f30 c=S6 aB c:=bK
def OB:ak ae.toSeat:=cy 30 [.bI] [.int .i64] (en 42 [HA,VE] [] [(6,⟨⟨[(1,.bx 1 0),(31,.v (.int .i64))],[]⟩,[29,30],[1],[]⟩)]) Tryz.func30 (fun it a=>S6 it a.1) (by kernel_rfl) (by kernel_rfl) (fun _=>rfl) (aO _)
def Xb (r:Region) (n:Int) (wR:Int) (aT:Int→Int→Option Int):Option Int :=
 bif (decide (wR<(r.aI.Reaches.length:Int))) then
 ao (decide (0≤wR)&&decide (wR<(r.aI.Reaches.length:Int))) <|
 aT (aj (n+(r.aI.Reaches.getD wR.toNat b6).s8)) (aj (wR+1))
 else
 some n
def TB (it:It Int) (r:Region):Option Int :=
 it _ (fun (v_0:(Int×Int×Unit)×(Unit)) kn=>Xb r v_0.1.1 v_0.1.2.1 (fun y0 y1=>kn ((y0,y1,()),(())))) ((0,0,()),(()))
def f67 (r:Region):Option Int:=bT (fun (a:aE [.Region])=>TB aB a.1) (r,())
theorem aiO (r:Region):f67 r=TB aB r:=bK
def VF:ak ae.toSeat:=cy 67 [.Region] [.int .i64] (en 20 [] [] [(3,⟨⟨[(3,.v (.int .i64)),(10,.v (.int .i64))],[]⟩,[8,9],[],[]⟩)]) Tryz.func67 (fun it a=>TB it a.1) (by kernel_rfl) (by kernel_rfl) (fun _=>rfl) (aO _)
def S7 (it:It bI) (r:Region) (wQ:List aS):Option bI :=
 (f67 r).bind fun r2 =>
 some (⟨(aj (100 * r2)),r.iV,r.fj,wQ⟩:bI)
def f31 (r:Region) (wQ:List aS):Option bI:=bT (fun (a:aE [.Region,.sl .aS])=>S7 aB a.1 a.2.1) (r,wQ,())
theorem ail (r:Region) (wQ:List aS):f31 r wQ=S7 aB r wQ:=bK
def OC:ak ae.toSeat:=mk0 31 [.Region,.sl .aS] [.bI] (en 14 [VF] [] []) Tryz.func31 (fun it a=>S7 it a.1 a.2.1) (by kernel_rfl) (by kernel_rfl) (aO _)
def TQ (it:It Bool) (n:Int) (low:Int) (high:Int):Option Bool :=
 bif (decide (n ≥ low)) then
 some (decide (n≤high))
 else
 some false
def f84 (n:Int) (low:Int) (high:Int):Option Bool:=bT (fun (a:aE [.int .i64,.int .i64,.int .i64])=>TQ aB a.1 a.2.1 a.2.2.1) (n,low,high,())
theorem ai6 (n:Int) (low:Int) (high:Int):f84 n low high=TQ aB n low high:=bK
def alU:ak ae.toSeat:=cy 84 [.int .i64,.int .i64,.int .i64] [.bool] (en 15 [] [] []) Tryz.func84 (fun it a=>TQ it a.1 a.2.1 a.2.2.1) (by kernel_rfl) (by kernel_rfl) (fun _=>rfl) (aO _)
def ac4 (it:It Int) (c:bI) (t:aS) (h:ff):Option Int :=
 bif (t.Way == 2) then
 some (aj (c.Length - h.At))
 else
 some h.At
def f110 (c:bI) (t:aS) (h:ff):Option Int:=bT (fun (a:aE [.bI,.aS,.ff])=>ac4 aB a.1 a.2.1 a.2.2.1) (c,t,h,())
def aoq:ak ae.toSeat:=cy 110 [.bI,.aS,.ff] [.int .i64] (en 17 [] [] []) Tryz.func110 (fun it a=>ac4 it a.1 a.2.1 a.2.2.1) (by kernel_rfl) (by kernel_rfl) (fun _=>rfl) (aO _)
def afO (t:aS) (c:bI) (i:Int) (aT:Int→Option Int):Option Int :=
 bif (decide (i<(t.Holds.length:Int))) then
 ao (decide (0≤i)&&decide (i<(t.Holds.length:Int))) <|
 (f84 ((t.Holds.getD i.toNat eH).At) 1 (aj (c.Length - 1))).bind fun r4 =>
 bif (!r4) then
 some 2
 else
 (f84 ((t.Holds.getD i.toNat eH).D3) 0 10000).bind fun r5 =>
 bif (!r5) then
 some 2
 else
 bif (decide (i > 0)) then
 (f110 c t (t.Holds.getD i.toNat eH)).bind fun r6 =>
 ao (decide (0≤(aj (i - 1)))&&decide ((aj (i - 1))<(t.Holds.length:Int))) <|
 (f110 c t (t.Holds.getD (aj (i - 1)).toNat eH)).bind fun r7 =>
 bif (decide (r6≤r7)) then
 some 11
 else
 aT (aj (i+1))
 else
 aT (aj (i+1))
 else
 some 0
def TS (t:aS) (c:bI) (i2:Int) (cW:Int→Option Int):Option Int :=
 bif (decide (i2<(t.Holds.length:Int))) then
 ao (decide (0≤i2)&&decide (i2<(t.Holds.length:Int))) <|
 (f84 ((t.Holds.getD i2.toNat eH).At) 1 (aj (c.Length - 1))).bind fun jC =>
 bif (!jC) then
 some 2
 else
 (f84 ((t.Holds.getD i2.toNat eH).D3) 0 10000).bind fun fX =>
 bif (!fX) then
 some 2
 else
 bif (decide (i2 > 0)) then
 (f110 c t (t.Holds.getD i2.toNat eH)).bind fun jD =>
 ao (decide (0≤(aj (i2 - 1)))&&decide ((aj (i2 - 1))<(t.Holds.length:Int))) <|
 (f110 c t (t.Holds.getD (aj (i2 - 1)).toNat eH)).bind fun j7 =>
 bif (decide (jD≤j7)) then
 some 11
 else
 cW (aj (i2+1))
 else
 cW (aj (i2+1))
 else
 some 0
def TR (it:It Int) (c:bI) (t:aS):Option Int :=
 bif (t.Way != 1) then
 bif (t.Way != 2) then
 some 4
 else
 (f84 t.Start 0 10000).bind fun r =>
 bif (!r) then
 some 2
 else
 (f84 t.b9.Lo 1 1000).bind fun r2 =>
 bif (!r2) then
 some 2
 else
 (f84 t.b9.Hi 1 1000).bind fun r3 =>
 bif (!r3) then
 some 2
 else
 bif (decide (t.b9.Lo > t.b9.Hi)) then
 some 11
 else
 bif (decide (c.Length > (aj (1000 * t.b9.Lo)))) then
 some 13
 else
 bif (decide (c.iV<(aj (2 * t.b9.Hi)))) then
 some 12
 else
 bif (decide ((t.Holds.length:Int) > 8)) then
 some 8
 else
 it _ (fun (v_0:(Unit×Unit×Int×Unit)×(Unit)) kn=>afO t c v_0.1.2.2.1 (fun y0=>kn (((),(),y0,()),(())))) (((),(),0,()),(()))
 else
 (f84 t.Start 0 10000).bind fun r8 =>
 bif (!r8) then
 some 2
 else
 (f84 t.b9.Lo 1 1000).bind fun r9 =>
 bif (!r9) then
 some 2
 else
 (f84 t.b9.Hi 1 1000).bind fun dN =>
 bif (!dN) then
 some 2
 else
 bif (decide (t.b9.Lo > t.b9.Hi)) then
 some 11
 else
 bif (decide (c.Length > (aj (1000 * t.b9.Lo)))) then
 some 13
 else
 bif (decide (c.iV<(aj (2 * t.b9.Hi)))) then
 some 12
 else
 bif (decide ((t.Holds.length:Int) > 8)) then
 some 8
 else
 it _ (fun (v_0:(Unit×Unit×Int×Unit)×(Unit)) kn=>TS t c v_0.1.2.2.1 (fun y0=>kn (((),(),y0,()),(())))) (((),(),0,()),(()))
def f85 (c:bI) (t:aS):Option Int:=bT (fun (a:aE [.bI,.aS])=>TR aB a.1 a.2.1) (c,t,())
theorem ai7 (c:bI) (t:aS):f85 c t=TR aB c t:=bK
def asW:ak ae.toSeat:=cy 85 [.bI,.aS] [.int .i64] (en 107 [alU,aoq] [] [(14,⟨⟨[(2,.bx 2 0),(3,.bx 3 0),(5,.v (.int .i64))],[]⟩,[],[2,3],[]⟩)]) Tryz.func85 (fun it a=>TR it a.1 a.2.1) (by kernel_rfl) (by kernel_rfl) (fun _=>rfl) (aO _)
def W3 (c:bI) (i:Int) (aT:Int→Option Int):Option Int :=
 bif (decide (i<(c.mB.length:Int))) then
 ao (decide (0≤i)&&decide (i<(c.mB.length:Int))) <|
 (f85 c (c.mB.getD i.toNat mK)).bind fun r4 =>
 bif (r4 != 0) then
 some r4
 else
 aT (aj (i+1))
 else
 some 0
def Tl (it:It Int) (c:bI):Option Int :=
 (f84 c.Length 1 100000).bind fun r =>
 bif (!r) then
 some 2
 else
 (f84 c.iV 1 100000).bind fun r2 =>
 bif (!r2) then
 some 2
 else
 (f84 c.fj 0 20).bind fun r3 =>
 bif (!r3) then
 some 2
 else
 bif (decide ((c.mB.length:Int) > 20)) then
 some 8
 else
 it _ (fun (v_0:(Unit×Int×Unit)×(Unit)) kn=>W3 c v_0.1.2.1 (fun y0=>kn (((),y0,()),(())))) (((),0,()),(()))
def f43 (c:bI):Option Int:=bT (fun (a:aE [.bI])=>Tl aB a.1) (c,())
theorem aix (c:bI):f43 c=Tl aB c:=bK
def asE:ak ae.toSeat:=cy 43 [.bI] [.int .i64] (en 42 [alU,asW] [] [(6,⟨⟨[(1,.bx 1 0),(3,.v (.int .i64))],[]⟩,[],[1],[]⟩)]) Tryz.func43 (fun it a=>Tl it a.1) (by kernel_rfl) (by kernel_rfl) (fun _=>rfl) (aO _)
def Tm (it:It bI) (r:Region) (l:List aS):Option bI :=
 (f15 r.aI).bind fun r2 =>
 some (⟨(aj (100 * r2)),r.iV,r.fj,l⟩:bI)
def f44 (r:Region) (l:List aS):Option bI:=bT (fun (a:aE [.Region,.sl .aS])=>Tm aB a.1 a.2.1) (r,l,())
theorem aiy (r:Region) (l:List aS):f44 r l=Tm aB r l:=bK
def asF:ak ae.toSeat:=mk0 44 [.Region,.sl .aS] [.bI] (en 15 [acb] [] []) Tryz.func44 (fun it a=>Tm it a.1 a.2.1) (by kernel_rfl) (by kernel_rfl) (aO _)
def Jn (it:It Bool) (n:Int) (low:Int) (high:Int):Option Bool :=
 bif (decide (low≤n)) then
 some (decide (n≤high))
 else
 some false
def f102 (n:Int) (low:Int) (high:Int):Option Bool:=bT (fun (a:aE [.int .i64,.int .i64,.int .i64])=>Jn aB a.1 a.2.1 a.2.2.1) (n,low,high,())
theorem afo (n:Int) (low:Int) (high:Int):f102 n low high=Jn aB n low high:=bK
def x3:ak ae.toSeat:=cy 102 [.int .i64,.int .i64,.int .i64] [.bool] (en 15 [] [] []) Tryz.func102 (fun it a=>Jn it a.1 a.2.1 a.2.2.1) (by kernel_rfl) (by kernel_rfl) (fun _=>rfl) (aO _)
def Jo (it:It Int) (x:Span) (low:Int) (high:Int):Option Int :=
 (f102 x.Lo low high).bind fun r =>
 bif (!r) then
 some 2
 else
 (f102 x.Hi low high).bind fun r2 =>
 bif (!r2) then
 some 2
 else
 bif (decide (x.Lo > x.Hi)) then
 some 11
 else
 some 0
def f103 (x:Span) (low:Int) (high:Int):Option Int:=bT (fun (a:aE [.Span,.int .i64,.int .i64])=>Jo aB a.1 a.2.1 a.2.2.1) (x,low,high,())
theorem afp (x:Span) (low:Int) (high:Int):f103 x low high=Jo aB x low high:=bK
def Vr:ak ae.toSeat:=cy 103 [.Span,.int .i64,.int .i64] [.int .i64] (en 28 [x3] [] []) Tryz.func103 (fun it a=>Jo it a.1 a.2.1 a.2.2.1) (by kernel_rfl) (by kernel_rfl) (fun _=>rfl) (aO _)
def GV (s:ByteArray) (x6:ByteArray×Nat) (aT:(ByteArray×Nat)→Option Bool):Option Bool :=
 bif (Nat.blt x6.2 x6.1.size) then
 bif (decide (((Utf8.decode x6.1 x6.2).1:Int)<97)) then
 some false
 else
 bif (decide (((Utf8.decode x6.1 x6.2).1:Int) > 122)) then
 some false
 else
 aT (x6.1,(x6.2+(Utf8.decode x6.1 x6.2).2))
 else
 (f102 (s.size:Int) 1 8).bind fun r =>
 some r
def Jm (it:It Bool) (s:ByteArray):Option Bool :=
 it _ (fun (v_0:((ByteArray×Nat)×Unit)×(Unit)) kn=>GV s v_0.1.1 (fun y0=>kn ((y0,()),(())))) (((s,0),()),(()))
def f101 (s:ByteArray):Option Bool:=bT (fun (a:aE [.str])=>Jm aB a.1) (s,())
theorem afm (s:ByteArray):f101 s=Jm aB s:=bK
def Vq:ak ae.toSeat:=cy 101 [.str] [.bool] (en 19 [x3] [] [(2,⟨⟨[(6,.si 6)],[]⟩,[0],[],[]⟩)]) Tryz.func101 (fun it a=>Jm it a.1) (by kernel_rfl) (by kernel_rfl) (fun _=>rfl) (aO _)
def o9 (b:aH) (wS:Int) (aT:(List ByteArray)→Int→Option Int) (names:List ByteArray) (ZQ:Int) (cW:Int→Option Int):Option Int :=
 bif (decide (ZQ<2)) then
 bif ZQ == 0 then
 (f103 ((b.ah.getD wS.toNat ay).Open) 0 1000000000).bind fun r3 =>
 bif (r3 != 0) then
 some r3
 else
 cW (aj (ZQ+1))
 else
 bif ZQ == 1 then
 (f103 ((b.ah.getD wS.toNat ay).dK) 0 1000000000).bind fun r4 =>
 bif (r4 != 0) then
 some r4
 else
 cW (aj (ZQ+1))
 else
 none
 else
 aT (names++[(b.ah.getD wS.toNat ay).Name]) (aj (wS+1))
def Qt (b:aH) (Gg:Int) (jO:Int→Option Int):Option Int :=
 bif (decide (Gg<(b.aZ.length:Int))) then
 ao (decide (0≤Gg)&&decide (Gg<(b.aZ.length:Int))) <|
 (f102 ((b.aZ.getD Gg.toNat cC).bu) 0 (aj ((b.ah.length:Int) - 1))).bind fun r5 =>
 bif (!r5) then
 some 7
 else
 (f102 ((b.aZ.getD Gg.toNat cC).To) 0 (aj ((b.ah.length:Int) - 1))).bind fun r6 =>
 bif (!r6) then
 some 7
 else
 bif ((b.aZ.getD Gg.toNat cC).bu == (b.aZ.getD Gg.toNat cC).To) then
 some 3
 else
 (f103 ((b.aZ.getD Gg.toNat cC).fo) 0 1000000000).bind fun r7 =>
 bif (r7 != 0) then
 some r7
 else
 jO (aj (Gg+1))
 else
 some 0
def Xc (it:It Int) (b:aH) (names:List ByteArray) (wS:Int) (aT:(List ByteArray)→Int→Option Int):Option Int :=
 bif (decide (wS<(b.ah.length:Int))) then
 ao (decide (0≤wS)&&decide (wS<(b.ah.length:Int))) <|
 (f101 ((b.ah.getD wS.toNat ay).Name)).bind fun r =>
 bif (!r) then
 some 3
 else
 bif (nW names ((b.ah.getD wS.toNat ay).Name)) then
 some 9
 else
 (f102 ((b.ah.getD wS.toNat ay).Kind) 1 2).bind fun r2 =>
 bif (!r2) then
 some 4
 else
 ao (!nW names ((b.ah.getD wS.toNat ay).Name)) <|
 it _ (fun (v_0:(Unit×Unit×Int×Unit)×(Unit)) kn=>o9 b wS aT names v_0.1.2.2.1 (fun y0=>kn (((),(),y0,()),(())))) (((),(),0,()),(()))
 else
 bif (decide ((b.aZ.length:Int) > 30)) then
 some 8
 else
 it _ (fun (v_0:(Unit×Int×Unit)×(Unit)) kn=>Qt b v_0.1.2.1 (fun y0=>kn (((),y0,()),(())))) (((),0,()),(()))
def TC (it:It Int) (b:aH):Option Int :=
 bif ((b.ah.length:Int) == 0) then
 some 6
 else
 bif (decide ((b.ah.length:Int) > 8)) then
 some 8
 else
 it _ (fun (v_0:(Unit×(List ByteArray)×Int×Unit)×(Unit)) kn=>Xc it b v_0.1.2.1 v_0.1.2.2.1 (fun y0 y1=>kn (((),y0,y1,()),(())))) (((),([]:List ByteArray),0,()),(()))
def f68 (b:aH):Option Int:=bT (fun (a:aE [.aH])=>TC aB a.1) (b,())
theorem aiP (b:aH):f68 b=TC aB b:=bK
def acr:ak ae.toSeat:=cy 68 [.aH] [.int .i64] (en 106 [Vq,x3,Vr] [] [(7,⟨⟨[(1,.bx 1 0),(3,.jM 22),(26,.v (.int .i64))],[]⟩,[24,25],[1],[]⟩),(17,⟨⟨[(1,.bx 1 0),(3,.gV 22),(53,.v (.int .i64))],[]⟩,[26,52],[22],[]⟩),(27,⟨⟨[(1,.bx 1 0),(70,.v (.int .i64))],[]⟩,[68,69],[1],[]⟩)]) Tryz.func68 (fun it a=>TC it a.1) (by kernel_rfl) (by kernel_rfl) (fun _=>rfl) (aO _)
def Jq (it:It Bool) (k:Int) (a1:Int):Option Bool :=
 ao (decide (0≤k)) <|
 some ((Z4 .i64 (oQ .i64 a1 k) 1) == 1)
def f105 (k:Int) (a1:Int):Option Bool:=bT (fun (a:aE [.int .i64,.ptr (.int .i64)])=>Jq aB a.1 a.2.1) (k,a1,())
theorem afr (k:Int) (a1:Int):f105 k a1=Jq aB k a1:=bK
def Kj:ak ae.toSeat:=cy 105 [.int .i64,.ptr (.int .i64)] [.bool] (en 9 [] [] []) Tryz.func105 (fun it a=>Jq it a.1 a.2.1) (by kernel_rfl) (by kernel_rfl) (fun _=>rfl) (aO _)
def Db (a0:aH) (b8:Int) (aT:Int→Option (List (dv×Unit))) (qy:Int) (mP:Int) (pa:Int) (kO:Bool) (pc:Bool) (jO:Int→Int→Int→Bool→Bool→Option (List (dv×Unit))):Option (List (dv×Unit)) :=
 bif (decide (qy<(a0.aZ.length:Int))) then
 ao (decide (0≤qy)&&decide (qy<(a0.aZ.length:Int))) <|
 (f105 ((a0.aZ.getD qy.toNat cC).bu) b8).bind fun r2 =>
 (f105 ((a0.aZ.getD qy.toNat cC).To) b8).bind fun r3 =>
 bif r3 then
 bif (!r2) then
 jO (aj (qy+1)) (aj (mP+(a0.aZ.getD qy.toNat cC).fo.Lo)) (aj (pa+(a0.aZ.getD qy.toNat cC).fo.Hi)) kO pc
 else
 bif r2 then
 bif (!r3) then
 jO (aj (qy+1)) (aj (mP - (a0.aZ.getD qy.toNat cC).fo.Hi)) (aj (pa - (a0.aZ.getD qy.toNat cC).fo.Lo)) kO pc
 else
 jO (aj (qy+1)) mP pa kO pc
 else
 jO (aj (qy+1)) mP pa kO pc
 else
 bif r2 then
 bif (!r3) then
 jO (aj (qy+1)) (aj (mP - (a0.aZ.getD qy.toNat cC).fo.Hi)) (aj (pa - (a0.aZ.getD qy.toNat cC).fo.Lo)) kO pc
 else
 jO (aj (qy+1)) mP pa kO pc
 else
 jO (aj (qy+1)) mP pa kO pc
 else
 rl ((⟨b8,mP,pa,kO,pc⟩:dv),())
 (some [])
 (aT (aj (b8+1)))
def GY (it:It (List (dv×Unit))) (a0:aH) (b8:Int) (aT:Int→Option (List (dv×Unit))) (mn:Int) (vW:Int) (zJ:Int) (xx:Bool) (ET:Bool) (cW:Int→Int→Int→Bool→Bool→Option (List (dv×Unit))):Option (List (dv×Unit)) :=
 bif (decide (mn<(a0.ah.length:Int))) then
 ao (decide (0≤mn)&&decide (mn<(a0.ah.length:Int))) <|
 (f105 mn b8).bind fun r =>
 bif r then
 bif xx then
 cW (aj (mn+1)) (aj (vW+(aj ((a0.ah.getD mn.toNat ay).Open.Lo - (a0.ah.getD mn.toNat ay).dK.Hi)))) (aj (zJ+(aj ((a0.ah.getD mn.toNat ay).Open.Hi - (a0.ah.getD mn.toNat ay).dK.Lo)))) ((a0.ah.getD mn.toNat ay).Kind == 2) ET
 else
 cW (aj (mn+1)) (aj (vW+(aj ((a0.ah.getD mn.toNat ay).Open.Lo - (a0.ah.getD mn.toNat ay).dK.Hi)))) (aj (zJ+(aj ((a0.ah.getD mn.toNat ay).Open.Hi - (a0.ah.getD mn.toNat ay).dK.Lo)))) false ET
 else
 bif ET then
 cW (aj (mn+1)) vW zJ xx ((a0.ah.getD mn.toNat ay).Kind == 2)
 else
 cW (aj (mn+1)) vW zJ xx false
 else
 it _ (fun (v_0:(Unit×Unit×Int×Unit)×((Unit×Int×Int×Bool×Bool×Unit)×Unit)) kn=>Db a0 b8 aT v_0.1.2.2.1 v_0.2.1.2.1 v_0.2.1.2.2.1 v_0.2.1.2.2.2.1 v_0.2.1.2.2.2.2.1 (fun y0 y1 y2 y3 y4=>kn (((),(),y0,()),(((),y1,y2,y3,y4,()),())))) (((),(),0,()),(((),vW,zJ,xx,ET,()),()))
def GX (it:It (List (dv×Unit))) (a0:aH) (b8:Int) (aT:Int→Option (List (dv×Unit))):Option (List (dv×Unit)) :=
 bif (decide (b8<(Vp .i64 1 (a0.ah.length:Int)))) then
 it _ (fun (v_0:(Unit×Unit×Int×Unit)×((Unit×Int×Int×Bool×Bool×Unit)×Unit)) kn=>GY it a0 b8 aT v_0.1.2.2.1 v_0.2.1.2.1 v_0.2.1.2.2.1 v_0.2.1.2.2.2.1 v_0.2.1.2.2.2.2.1 (fun y0 y1 y2 y3 y4=>kn (((),(),y0,()),(((),y1,y2,y3,y4,()),())))) (((),(),0,()),(((),0,0,true,true,()),()))
 else
 some []
def Jp (it:It (List (dv×Unit))) (a0:aH):Option (List (dv×Unit)) :=
 ao (decide (0≤(a0.ah.length:Int))) <|
 it _ (fun (v_0:(Unit×Int×Unit)×(Unit)) kn=>GX it a0 v_0.1.2.1 (fun y0=>kn (((),y0,()),(())))) (((),0,()),(()))
def f104 (a0:aH):Option (List (dv×Unit)):=bT (fun (a:aE [.ptr .aH])=>Jp aB a.1) (a0,())
theorem afq (a0:aH):f104 a0=Jp aB a0:=bK
def JW:pz ae.toSeat:=akO 104 [.ptr .aH] [.dv] { en 134 [Kj] [] [(1,⟨⟨[(0,.yl YL),(15,.v (.int .i64))],[]⟩,[1,14],[],[]⟩),(5,⟨⟨[(0,.yl YL),(4,.bx 4 0),(23,.v (.int .i64))],[(4,[.sD 105 [(3,0)],.v (.int .i64),.v (.int .i64),.v .bool,.v .bool])]⟩,[15,21,22],[3],[]⟩),(14,⟨⟨[(0,.yl YL),(4,.bx 4 0),(74,.v (.int .i64))],[(4,[.sD 105 [(3,0)],.v (.int .i64),.v (.int .i64),.v .bool,.v .bool])]⟩,[15,72,73],[3],[]⟩)] with ba:=[YL],rf:=true } Tryz.func104 (fun it a=>Jp it a.1) (by kernel_rfl) (by kernel_rfl) rfl rfl rfl (aO _)
def TD (it:It aH) (b:aH):Option aH :=
 some b
def f69 (b:aH):Option aH:=bT (fun (a:aE [.aH])=>TD aB a.1) (b,())
theorem aiR (b:aH):f69 b=TD aB b:=bK
def acs:ak ae.toSeat:=asb 69 [.aH] 104 .aH (en 4 [] [] []) Tryz.func69 (fun it a=>TD it a.1) (by kernel_rfl) (by kernel_rfl) (aO _)
def WY (x2:Int):Option Int :=
 some 0
def LW (x2:Int) (x12:dv) (aT:Int→Option Int):Option Int :=
 bif (decide (x12.pZ<0)) then
 some 12
 else
 bif x12.ground then
 bif (decide (x12.least > 0)) then
 some 12
 else
 aT x2
 else
 aT x2
def S9 (it:It Int) (b:aH):Option Int :=
 (f68 b).bind fun r =>
 bif (r != 0) then
 some r
 else
 (f69 b).bind fun r2 =>
 (f104 r2).bind fun items=>it _ (fun (v_0:((Unit×Unit)×((Int×Unit)×Unit))×List (dv×Unit)) kn=>match v_0.2 with
 |[]=>WY v_0.1.2.1.1
 |a::l=>LW v_0.1.2.1.1 a.1 (fun y0=>kn ((((),()),((y0,()),())),l))) ((((),()),((0,()),())),items)
def f33 (b:aH):Option Int:=bT (fun (a:aE [.aH])=>S9 aB a.1) (b,())
theorem ain (b:aH):f33 b=S9 aB b:=bK
def ach:ak ae.toSeat:=cy 33 [.aH] [.int .i64] { en 25 [acr,acs] [] [(5,⟨⟨[(2,.bx 2 0)],[(2,[.v (.int .i64)])]⟩,[11],[],[]⟩)] with FI:=[JW] } Tryz.func33 (fun it a=>S9 it a.1) (by kernel_rfl) (by kernel_rfl) (fun _=>rfl) (aO _)
def aaw (it:It Bool) (n:Int) (low:Int) (high:Int):Option Bool :=
 bif (decide (n ≥ low)) then
 some (decide (n≤high))
 else
 some false
def f87 (n:Int) (low:Int) (high:Int):Option Bool:=bT (fun (a:aE [.int .i64,.int .i64,.int .i64])=>aaw aB a.1 a.2.1 a.2.2.1) (n,low,high,())
theorem aja (n:Int) (low:Int) (high:Int):f87 n low high=aaw aB n low high:=bK
def alV:ak ae.toSeat:=cy 87 [.int .i64,.int .i64,.int .i64] [.bool] (en 15 [] [] []) Tryz.func87 (fun it a=>aaw it a.1 a.2.1 a.2.2.1) (by kernel_rfl) (by kernel_rfl) (fun _=>rfl) (aO _)
def L2 (it:It Int) (x:Span) (low:Int) (high:Int):Option Int :=
 (f87 x.Lo low high).bind fun r =>
 bif (!r) then
 some 2
 else
 (f87 x.Hi low high).bind fun r2 =>
 bif (!r2) then
 some 2
 else
 bif (decide (x.Lo > x.Hi)) then
 some 11
 else
 some 0
def f88 (x:Span) (low:Int) (high:Int):Option Int:=bT (fun (a:aE [.Span,.int .i64,.int .i64])=>L2 aB a.1 a.2.1 a.2.2.1) (x,low,high,())
theorem Xk (x:Span) (low:Int) (high:Int):f88 x low high=L2 aB x low high:=bK
def alW:ak ae.toSeat:=cy 88 [.Span,.int .i64,.int .i64] [.int .i64] (en 26 [alV] [] []) Tryz.func88 (fun it a=>L2 it a.1 a.2.1 a.2.2.1) (by kernel_rfl) (by kernel_rfl) (fun _=>rfl) (aO _)
def vT (s:ByteArray) (i:Int) (aT:Int→Option Bool):Option Bool :=
 bif (decide (i<(s.size:Int))) then
 ao (decide (0≤i)) <|
 mH s i.toNat fun b =>
 bif (decide (b<97)) then
 some false
 else
 ao (decide (0≤i)) <|
 mH s i.toNat fun b2 =>
 bif (decide (b2 > 122)) then
 some false
 else
 aT (aj (i+1))
 else
 some true
def Ju (it:It Bool) (s:ByteArray):Option Bool :=
 bif (decide ((s.size:Int)<1)) then
 some false
 else
 bif (decide ((s.size:Int) > 8)) then
 some false
 else
 it _ (fun (v_0:(Int×Unit)×(Unit)) kn=>vT s v_0.1.1 (fun y0=>kn ((y0,()),(())))) ((0,()),(()))
def f111 (s:ByteArray):Option Bool:=bT (fun (a:aE [.str])=>Ju aB a.1) (s,())
theorem afw (s:ByteArray):f111 s=Ju aB s:=bK
def aor:ak ae.toSeat:=cy 111 [.str] [.bool] (en 28 [] [] [(4,⟨⟨[(3,.v (.int .i64))],[]⟩,[0],[],[]⟩)]) Tryz.func111 (fun it a=>Ju it a.1) (by kernel_rfl) (by kernel_rfl) (fun _=>rfl) (aO _)
def G2 (i:Int) (l:List aU) (aT:Int→Option Int) (k:Int) (cW:Int→Option Int):Option Int :=
 bif (decide (k<i)) then
 ao (decide (0≤k)&&decide (k<(l.length:Int))) <|
 ao (decide (0≤i)&&decide (i<(l.length:Int))) <|
 bif (((l.getD k.toNat ay).Name).toList == ((l.getD i.toNat ay).Name).toList) then
 some 9
 else
 cW (aj (k+1))
 else
 ao (decide (0≤i)&&decide (i<(l.length:Int))) <|
 bif ((l.getD i.toNat ay).Kind != 1) then
 ao (decide (0≤i)&&decide (i<(l.length:Int))) <|
 bif ((l.getD i.toNat ay).Kind != 2) then
 some 4
 else
 ao (decide (0≤i)&&decide (i<(l.length:Int))) <|
 (f88 ((l.getD i.toNat ay).Open) 0 1000000000).bind fun r2 =>
 bif (r2 != 0) then
 some r2
 else
 ao (decide (0≤i)&&decide (i<(l.length:Int))) <|
 (f88 ((l.getD i.toNat ay).dK) 0 1000000000).bind fun r3 =>
 bif (r3 != 0) then
 some r3
 else
 aT (aj (i+1))
 else
 ao (decide (0≤i)&&decide (i<(l.length:Int))) <|
 (f88 ((l.getD i.toNat ay).Open) 0 1000000000).bind fun r4 =>
 bif (r4 != 0) then
 some r4
 else
 ao (decide (0≤i)&&decide (i<(l.length:Int))) <|
 (f88 ((l.getD i.toNat ay).dK) 0 1000000000).bind fun r5 =>
 bif (r5 != 0) then
 some r5
 else
 aT (aj (i+1))
def Xj (it:It Int) (l:List aU) (i:Int) (aT:Int→Option Int):Option Int :=
 bif (decide (i<(l.length:Int))) then
 ao (decide (0≤i)&&decide (i<(l.length:Int))) <|
 (f111 ((l.getD i.toNat ay).Name)).bind fun r =>
 bif (!r) then
 some 3
 else
 it _ (fun (v_0:(Int×Unit)×(Unit)) kn=>G2 i l aT v_0.1.1 (fun y0=>kn ((y0,()),(())))) ((0,()),(()))
 else
 some 0
def TU (it:It Int) (l:List aU):Option Int :=
 bif ((l.length:Int) == 0) then
 some 6
 else
 bif (decide ((l.length:Int) > 8)) then
 some 8
 else
 it _ (fun (v_0:(Int×Unit)×(Unit)) kn=>Xj it l v_0.1.1 (fun y0=>kn ((y0,()),(())))) ((0,()),(()))
def f86 (l:List aU):Option Int:=bT (fun (a:aE [.sl .aU])=>TU aB a.1) (l,())
theorem ai8 (l:List aU):f86 l=TU aB l:=bK
def asX:ak ae.toSeat:=cy 86 [.sl .aU] [.int .i64] (en 74 [aor,alW] [] [(6,⟨⟨[(3,.v (.int .i64))],[]⟩,[0],[],[]⟩),(11,⟨⟨[(4,.v (.int .i64))],[]⟩,[3],[],[]⟩)]) Tryz.func86 (fun it a=>TU it a.1) (by kernel_rfl) (by kernel_rfl) (fun _=>rfl) (aO _)
def LR (b:aH) (abM:List Span) (i3:Int) (jO:(List Span)→Int→Option (List Span)):Option (List Span) :=
 bif (decide (i3<(b.aZ.length:Int))) then
 ao (decide (0≤i3)&&decide (i3<(b.aZ.length:Int))) <|
 ao (dH (abM.length+([(b.aZ.getD i3.toNat cC).fo]:List Span).length) 16) <|
 jO (abM++([(b.aZ.getD i3.toNat cC).fo]:List Span)) (aj (i3+1))
 else
 some abM
def Qn (it:It (List Span)) (b:aH) (abL:List Span) (i2:Int) (cW:(List Span)→Int→Option (List Span)):Option (List Span) :=
 bif (decide (i2<(b.ah.length:Int))) then
 ao (decide (0≤i2)&&decide (i2<(b.ah.length:Int))) <|
 ao (dH (abL.length+([(b.ah.getD i2.toNat ay).dK]:List Span).length) 16) <|
 cW (abL++([(b.ah.getD i2.toNat ay).dK]:List Span)) (aj (i2+1))
 else
 it _ (fun (v_0:(Unit×(List Span)×Int×Unit)×(Unit)) kn=>LR b v_0.1.2.1 v_0.1.2.2.1 (fun y0 y1=>kn (((),y0,y1,()),(())))) (((),abL,0,()),(()))
def afJ (it:It (List Span)) (b:aH) (out:List Span) (i:Int) (aT:(List Span)→Int→Option (List Span)):Option (List Span) :=
 bif (decide (i<(b.ah.length:Int))) then
 ao (decide (0≤i)&&decide (i<(b.ah.length:Int))) <|
 ao (dH (out.length+([(b.ah.getD i.toNat ay).Open]:List Span).length) 16) <|
 aT (out++([(b.ah.getD i.toNat ay).Open]:List Span)) (aj (i+1))
 else
 it _ (fun (v_0:(Unit×(List Span)×Int×Unit)×(Unit)) kn=>Qn it b v_0.1.2.1 v_0.1.2.2.1 (fun y0 y1=>kn (((),y0,y1,()),(())))) (((),out,0,()),(()))
def JD (it:It (List Span)) (b:aH):Option (List Span) :=
 it _ (fun (v_0:(Unit×(List Span)×Int×Unit)×(Unit)) kn=>afJ it b v_0.1.2.1 v_0.1.2.2.1 (fun y0 y1=>kn (((),y0,y1,()),(())))) (((),([]:List Span),0,()),(()))
def f136 (b:aH):Option (List Span):=bT (fun (a:aE [.aH])=>JD aB a.1) (b,())
theorem afK (b:aH):f136 b=JD aB b:=bK
def ad9:ak ae.toSeat:=mk0 136 [.aH] [.sl .Span] (en 56 [] [21,37,53] [(3,⟨⟨[(1,.bx 1 0),(3,.os 3 27 .Span),(4,.v (.int .i64))],[]⟩,[],[1],[]⟩),(7,⟨⟨[(1,.bx 1 0),(3,.os 3 27 .Span),(5,.v (.int .i64))],[]⟩,[],[1],[]⟩),(11,⟨⟨[(1,.bx 1 0),(3,.os 3 27 .Span),(6,.v (.int .i64))],[]⟩,[],[1],[]⟩)]) Tryz.func136 (fun it a=>JD it a.1) (by kernel_rfl) (by kernel_rfl) (aO _)
def JE (it:It Bool) (dU:Int) (qE:Int):Option Bool :=
 ao (decide (0≤qE)) <|
 some ((Z4 .i64 (oQ .i64 dU qE) 1) == 1)
def f137 (dU:Int) (qE:Int):Option Bool:=bT (fun (a:aE [.int .i64,.int .i64])=>JE aB a.1 a.2.1) (dU,qE,())
theorem afL (dU:Int) (qE:Int):f137 dU qE=JE aB dU qE:=bK
def Vt:ak ae.toSeat:=cy 137 [.int .i64,.int .i64] [.bool] (en 10 [] [] []) Tryz.func137 (fun it a=>JE it a.1 a.2.1) (by kernel_rfl) (by kernel_rfl) (fun _=>rfl) (aO _)
def Jv (it:It Int) (b:aH):Option Int :=
 ao (decide (0≤(b.ah.length:Int))) <|
 some (Vp .i64 1 (b.ah.length:Int))
def f112 (b:aH):Option Int:=bT (fun (a:aE [.aH])=>Jv aB a.1) (b,())
theorem afy (b:aH):f112 b=Jv aB b:=bK
def aos:ak ae.toSeat:=cy 112 [.aH] [.int .i64] (en 7 [] [] []) Tryz.func112 (fun it a=>Jv it a.1) (by kernel_rfl) (by kernel_rfl) (fun _=>rfl) (aO _)
def oG (b:aH) (dU:Int) (but:Int) (r:List Span) (i2:Int) (mq:Int) (lr:Int) (cW:Int→Int→Int→Option Span):Option Span :=
 bif (decide (i2<(b.aZ.length:Int))) then
 ao (decide (0≤i2)&&decide (i2<(b.aZ.length:Int))) <|
 (f137 dU ((b.aZ.getD i2.toNat cC).To)).bind fun r3 =>
 bif r3 then
 ao (decide (0≤i2)&&decide (i2<(b.aZ.length:Int))) <|
 (f137 dU ((b.aZ.getD i2.toNat cC).bu)).bind fun r4 =>
 bif (!r4) then
 bif ((aj ((aj (2 * (b.ah.length:Int)))+i2)) != but) then
 ao (decide (0≤(aj ((aj (2 * (b.ah.length:Int)))+i2)))&&decide ((aj ((aj (2 * (b.ah.length:Int)))+i2))<(r.length:Int))) <|
 ao (decide (0≤(aj ((aj (2 * (b.ah.length:Int)))+i2)))&&decide ((aj ((aj (2 * (b.ah.length:Int)))+i2))<(r.length:Int))) <|
 cW (aj (i2+1)) (aj (mq+(r.getD (aj ((aj (2 * (b.ah.length:Int)))+i2)).toNat cf).Lo)) (aj (lr+(r.getD (aj ((aj (2 * (b.ah.length:Int)))+i2)).toNat cf).Hi))
 else
 cW (aj (i2+1)) mq lr
 else
 cW (aj (i2+1)) mq lr
 else
 cW (aj (i2+1)) mq lr
 else
 some (⟨mq,lr⟩:Span)
def sT (it:It Span) (b:aH) (dU:Int) (but:Int) (r:List Span) (i:Int) (oW:Int) (rj:Int) (aT:Int→Int→Int→Option Span):Option Span :=
 bif (decide (i<(b.ah.length:Int))) then
 (f137 dU i).bind fun r2 =>
 bif r2 then
 bif (i != but) then
 ao (decide (0≤i)&&decide (i<(r.length:Int))) <|
 ao (decide (0≤i)&&decide (i<(r.length:Int))) <|
 aT (aj (i+1)) (aj (oW+(r.getD i.toNat cf).Lo)) (aj (rj+(r.getD i.toNat cf).Hi))
 else
 aT (aj (i+1)) oW rj
 else
 aT (aj (i+1)) oW rj
 else
 it _ (fun (v_0:(Unit×Unit×Unit×Int×Unit)×((Int×Int×Unit)×Unit)) kn=>oG b dU but r v_0.1.2.2.2.1 v_0.2.1.1 v_0.2.1.2.1 (fun y0 y1 y2=>kn (((),(),(),y0,()),((y1,y2,()),())))) (((),(),(),0,()),((oW,rj,()),()))
def Jw (it:It Span) (b:aH) (dU:Int) (but:Int):Option Span :=
 (f136 b).bind fun r =>
 it _ (fun (v_0:(Unit×Unit×Unit×Int×Unit)×((Int×Int×Unit)×Unit)) kn=>sT it b dU but r v_0.1.2.2.2.1 v_0.2.1.1 v_0.2.1.2.1 (fun y0 y1 y2=>kn (((),(),(),y0,()),((y1,y2,()),())))) (((),(),(),0,()),((0,0,()),()))
def f113 (b:aH) (dU:Int) (but:Int):Option Span:=bT (fun (a:aE [.aH,.int .i64,.int .i64])=>Jw aB a.1 a.2.1 a.2.2.1) (b,dU,but,())
theorem afz (b:aH) (dU:Int) (but:Int):f113 b dU but=Jw aB b dU but:=bK
def aot:ak ae.toSeat:=cy 113 [.aH,.int .i64,.int .i64] [.Span] (en 101 [ad9,Vt] [] [(5,⟨⟨[(3,.bx 3 0),(6,.bx 6 0),(7,.bx 7 0),(10,.v (.int .i64))],[(7,[.v (.int .i64),.v (.int .i64)])]⟩,[1,2,8,9],[3,6],[]⟩),(10,⟨⟨[(3,.bx 3 0),(6,.bx 6 0),(7,.bx 7 0),(11,.v (.int .i64))],[(7,[.v (.int .i64),.v (.int .i64)])]⟩,[1,2,8,9],[3,6],[]⟩)]) Tryz.func113 (fun it a=>Jw it a.1 a.2.1 a.2.2.1) (by kernel_rfl) (by kernel_rfl) (fun _=>rfl) (aO _)
def oH (b:aH) (dU:Int) (but:Int) (r:List Span) (i2:Int) (mq:Int) (lr:Int) (cW:Int→Int→Int→Option Span):Option Span :=
 bif (decide (i2<(b.aZ.length:Int))) then
 ao (decide (0≤i2)&&decide (i2<(b.aZ.length:Int))) <|
 (f137 dU ((b.aZ.getD i2.toNat cC).bu)).bind fun r3 =>
 bif r3 then
 ao (decide (0≤i2)&&decide (i2<(b.aZ.length:Int))) <|
 (f137 dU ((b.aZ.getD i2.toNat cC).To)).bind fun r4 =>
 bif (!r4) then
 bif ((aj ((aj (2 * (b.ah.length:Int)))+i2)) != but) then
 ao (decide (0≤(aj ((aj (2 * (b.ah.length:Int)))+i2)))&&decide ((aj ((aj (2 * (b.ah.length:Int)))+i2))<(r.length:Int))) <|
 ao (decide (0≤(aj ((aj (2 * (b.ah.length:Int)))+i2)))&&decide ((aj ((aj (2 * (b.ah.length:Int)))+i2))<(r.length:Int))) <|
 cW (aj (i2+1)) (aj (mq+(r.getD (aj ((aj (2 * (b.ah.length:Int)))+i2)).toNat cf).Lo)) (aj (lr+(r.getD (aj ((aj (2 * (b.ah.length:Int)))+i2)).toNat cf).Hi))
 else
 cW (aj (i2+1)) mq lr
 else
 cW (aj (i2+1)) mq lr
 else
 cW (aj (i2+1)) mq lr
 else
 some (⟨mq,lr⟩:Span)
def sU (it:It Span) (b:aH) (dU:Int) (but:Int) (r:List Span) (i:Int) (oW:Int) (rj:Int) (aT:Int→Int→Int→Option Span):Option Span :=
 bif (decide (i<(b.ah.length:Int))) then
 (f137 dU i).bind fun r2 =>
 bif r2 then
 bif ((aj ((b.ah.length:Int)+i)) != but) then
 ao (decide (0≤(aj ((b.ah.length:Int)+i)))&&decide ((aj ((b.ah.length:Int)+i))<(r.length:Int))) <|
 ao (decide (0≤(aj ((b.ah.length:Int)+i)))&&decide ((aj ((b.ah.length:Int)+i))<(r.length:Int))) <|
 aT (aj (i+1)) (aj (oW+(r.getD (aj ((b.ah.length:Int)+i)).toNat cf).Lo)) (aj (rj+(r.getD (aj ((b.ah.length:Int)+i)).toNat cf).Hi))
 else
 aT (aj (i+1)) oW rj
 else
 aT (aj (i+1)) oW rj
 else
 it _ (fun (v_0:(Unit×Unit×Unit×Int×Unit)×((Int×Int×Unit)×Unit)) kn=>oH b dU but r v_0.1.2.2.2.1 v_0.2.1.1 v_0.2.1.2.1 (fun y0 y1 y2=>kn (((),(),(),y0,()),((y1,y2,()),())))) (((),(),(),0,()),((oW,rj,()),()))
def Jy (it:It Span) (b:aH) (dU:Int) (but:Int):Option Span :=
 (f136 b).bind fun r =>
 it _ (fun (v_0:(Unit×Unit×Unit×Int×Unit)×((Int×Int×Unit)×Unit)) kn=>sU it b dU but r v_0.1.2.2.2.1 v_0.2.1.1 v_0.2.1.2.1 (fun y0 y1 y2=>kn (((),(),(),y0,()),((y1,y2,()),())))) (((),(),(),0,()),((0,0,()),()))
def f114 (b:aH) (dU:Int) (but:Int):Option Span:=bT (fun (a:aE [.aH,.int .i64,.int .i64])=>Jy aB a.1 a.2.1 a.2.2.1) (b,dU,but,())
theorem afA (b:aH) (dU:Int) (but:Int):f114 b dU but=Jy aB b dU but:=bK
def aou:ak ae.toSeat:=cy 114 [.aH,.int .i64,.int .i64] [.Span] (en 105 [ad9,Vt] [] [(5,⟨⟨[(3,.bx 3 0),(6,.bx 6 0),(7,.bx 7 0),(10,.v (.int .i64))],[(7,[.v (.int .i64),.v (.int .i64)])]⟩,[1,2,8,9],[3,6],[]⟩),(11,⟨⟨[(3,.bx 3 0),(6,.bx 6 0),(7,.bx 7 0),(12,.v (.int .i64))],[(7,[.v (.int .i64),.v (.int .i64)])]⟩,[1,2,8,9],[3,6],[]⟩)]) Tryz.func114 (fun it a=>Jy it a.1 a.2.1 a.2.2.1) (by kernel_rfl) (by kernel_rfl) (fun _=>rfl) (aO _)
def Qm (b:aH) (dU:Int) (but:Int) (i:Int) (aT:Int→Option Bool):Option Bool :=
 bif (decide (i<(b.ah.length:Int))) then
 (f137 dU i).bind fun r =>
 bif r then
 bif (i != but) then
 ao (decide (0≤i)&&decide (i<(b.ah.length:Int))) <|
 bif ((b.ah.getD i.toNat ay).Kind == 1) then
 some true
 else
 aT (aj (i+1))
 else
 aT (aj (i+1))
 else
 aT (aj (i+1))
 else
 some false
def Jz (it:It Bool) (b:aH) (dU:Int) (but:Int):Option Bool :=
 it _ (fun (v_0:(Unit×Int×Unit)×(Unit)) kn=>Qm b dU but v_0.1.2.1 (fun y0=>kn (((),y0,()),(())))) (((),0,()),(()))
def f115 (b:aH) (dU:Int) (but:Int):Option Bool:=bT (fun (a:aE [.aH,.int .i64,.int .i64])=>Jz aB a.1 a.2.1 a.2.2.1) (b,dU,but,())
theorem afB (b:aH) (dU:Int) (but:Int):f115 b dU but=Jz aB b dU but:=bK
def aov:ak ae.toSeat:=cy 115 [.aH,.int .i64,.int .i64] [.bool] (en 32 [Vt] [] [(2,⟨⟨[(3,.bx 3 0),(7,.v (.int .i64))],[]⟩,[1,2],[3],[]⟩)]) Tryz.func115 (fun it a=>Jz it a.1 a.2.1 a.2.2.1) (by kernel_rfl) (by kernel_rfl) (fun _=>rfl) (aO _)
def Xl (b:aH) (dU:Int) (aT:Int→Option Bool):Option Bool :=
 (f112 b).bind fun r =>
 bif (decide (dU<r)) then
 (f113 b dU (-1)).bind fun r2 =>
 (f114 b dU (-1)).bind fun r3 =>
 bif (decide (r3.Lo > r2.Hi)) then
 some false
 else
 (f115 b dU (-1)).bind fun r4 =>
 bif (!r4) then
 bif (decide (r2.Lo > r3.Hi)) then
 some false
 else
 aT (aj (dU+1))
 else
 aT (aj (dU+1))
 else
 some true
def TV (it:It Bool) (b:aH):Option Bool :=
 it _ (fun (v_0:(Unit×Int×Unit)×(Unit)) kn=>Xl b v_0.1.2.1 (fun y0=>kn (((),y0,()),(())))) (((),1,()),(()))
def f89 (b:aH):Option Bool:=bT (fun (a:aE [.aH])=>TV aB a.1) (b,())
theorem ajb (b:aH):f89 b=TV aB b:=bK
def asY:ak ae.toSeat:=cy 89 [.aH] [.bool] (en 36 [aos,aot,aou,aov] [] [(2,⟨⟨[(1,.bx 1 0),(3,.v (.int .i64))],[]⟩,[],[1],[]⟩)]) Tryz.func89 (fun it a=>TV it a.1) (by kernel_rfl) (by kernel_rfl) (fun _=>rfl) (aO _)
def W4 (b:aH) (i:Int) (aT:Int→Option Int):Option Int :=
 bif (decide (i<(b.aZ.length:Int))) then
 ao (decide (0≤i)&&decide (i<(b.aZ.length:Int))) <|
 (f87 ((b.aZ.getD i.toNat cC).bu) 0 (aj ((b.ah.length:Int) - 1))).bind fun r2 =>
 bif (!r2) then
 some 7
 else
 (f87 ((b.aZ.getD i.toNat cC).To) 0 (aj ((b.ah.length:Int) - 1))).bind fun r3 =>
 bif (!r3) then
 some 7
 else
 bif ((b.aZ.getD i.toNat cC).bu == (b.aZ.getD i.toNat cC).To) then
 some 3
 else
 (f88 ((b.aZ.getD i.toNat cC).fo) 0 1000000000).bind fun r4 =>
 bif (r4 != 0) then
 some r4
 else
 aT (aj (i+1))
 else
 (f89 b).bind fun r5 =>
 bif (!r5) then
 some 12
 else
 some 0
def Tn (it:It Int) (b:aH):Option Int :=
 (f86 b.ah).bind fun r =>
 bif (r != 0) then
 some r
 else
 bif (decide ((b.aZ.length:Int) > 30)) then
 some 8
 else
 it _ (fun (v_0:(Unit×Int×Unit)×(Unit)) kn=>W4 b v_0.1.2.1 (fun y0=>kn (((),y0,()),(())))) (((),0,()),(()))
def f45 (b:aH):Option Int:=bT (fun (a:aE [.aH])=>Tn aB a.1) (b,())
theorem aiz (b:aH):f45 b=Tn aB b:=bK
def asG:ak ae.toSeat:=cy 45 [.aH] [.int .i64] (en 61 [asX,alV,alW,asY] [] [(7,⟨⟨[(1,.bx 1 0),(4,.v (.int .i64))],[]⟩,[],[1],[]⟩)]) Tryz.func45 (fun it a=>Tn it a.1) (by kernel_rfl) (by kernel_rfl) (fun _=>rfl) (aO _)
def TE (it:It Bool) (n:Int) (low:Int) (high:Int):Option Bool :=
 bif (decide (low≤n)) then
 some (decide (n≤high))
 else
 some false
def f70 (n:Int) (low:Int) (high:Int):Option Bool:=bT (fun (a:aE [.int .i64,.int .i64,.int .i64])=>TE aB a.1 a.2.1 a.2.2.1) (n,low,high,())
theorem aiS (n:Int) (low:Int) (high:Int):f70 n low high=TE aB n low high:=bK
def uf:ak ae.toSeat:=cy 70 [.int .i64,.int .i64,.int .i64] [.bool] (en 15 [] [] []) Tryz.func70 (fun it a=>TE it a.1 a.2.1 a.2.2.1) (by kernel_rfl) (by kernel_rfl) (fun _=>rfl) (aO _)
def Jr (it:It Int) (x:Span) (low:Int) (high:Int):Option Int :=
 (f70 x.Lo low high).bind fun r =>
 bif (!r) then
 bif (!r) then
 some 2
 else
 bif (decide (x.Lo > x.Hi)) then
 some 11
 else
 some 0
 else
 (f70 x.Hi low high).bind fun r2 =>
 bif (!r2) then
 some 2
 else
 bif (decide (x.Lo > x.Hi)) then
 some 11
 else
 some 0
def f106 (x:Span) (low:Int) (high:Int):Option Int:=bT (fun (a:aE [.Span,.int .i64,.int .i64])=>Jr aB a.1 a.2.1 a.2.2.1) (x,low,high,())
theorem afs (x:Span) (low:Int) (high:Int):f106 x low high=Jr aB x low high:=bK
def sR:ak ae.toSeat:=cy 106 [.Span,.int .i64,.int .i64] [.int .i64] (en 26 [uf] [] []) Tryz.func106 (fun it a=>Jr it a.1 a.2.1 a.2.2.1) (by kernel_rfl) (by kernel_rfl) (fun _=>rfl) (aO _)
def TF (it:It Int) (r:aw) (p:Path):Option Int :=
 (f70 p.A 0 (aj (r.eX - 1))).bind fun r2 =>
 bif (!r2) then
 bif (!r2) then
 some 7
 else
 bif (p.A == p.B) then
 some 12
 else
 (f106 p.Time 0 5000).bind fun r3 =>
 bif (r3 != 0) then
 some r3
 else
 (f70 p.Open 1 3).bind fun r4 =>
 bif (!r4) then
 some 4
 else
 some 0
 else
 (f70 p.B 0 (aj (r.eX - 1))).bind fun r5 =>
 bif (!r5) then
 some 7
 else
 bif (p.A == p.B) then
 some 12
 else
 (f106 p.Time 0 5000).bind fun r6 =>
 bif (r6 != 0) then
 some r6
 else
 (f70 p.Open 1 3).bind fun r7 =>
 bif (!r7) then
 some 4
 else
 some 0
def f71 (r:aw) (p:Path):Option Int:=bT (fun (a:aE [.aw,.Path])=>TF aB a.1 a.2.1) (r,p,())
theorem aiT (r:aw) (p:Path):f71 r p=TF aB r p:=bK
def acu:ak ae.toSeat:=cy 71 [.aw,.Path] [.int .i64] (en 37 [uf,sR] [] []) Tryz.func71 (fun it a=>TF it a.1 a.2.1) (by kernel_rfl) (by kernel_rfl) (fun _=>rfl) (aO _)
def Xd (l:List Span) (low:Int) (high:Int) (ZM:Int) (aT:Int→Option Int):Option Int :=
 bif (decide (ZM<(l.length:Int))) then
 ao (decide (0≤ZM)&&decide (ZM<(l.length:Int))) <|
 (f106 (l.getD ZM.toNat cf) low high).bind fun r =>
 bif (r != 0) then
 some r
 else
 aT (aj (ZM+1))
 else
 some 0
def TH (it:It Int) (l:List Span) (many:Int) (low:Int) (high:Int):Option Int :=
 bif ((l.length:Int) != many) then
 some 3
 else
 it _ (fun (v_0:(Int×Unit)×(Unit)) kn=>Xd l low high v_0.1.1 (fun y0=>kn ((y0,()),(())))) ((0,()),(()))
def f73 (l:List Span) (many:Int) (low:Int) (high:Int):Option Int:=bT (fun (a:aE [.sl .Span,.int .i64,.int .i64,.int .i64])=>TH aB a.1 a.2.1 a.2.2.1 a.2.2.2.1) (l,many,low,high,())
theorem aiV (l:List Span) (many:Int) (low:Int) (high:Int):f73 l many low high=TH aB l many low high:=bK
def OE:ak ae.toSeat:=cy 73 [.sl .Span,.int .i64,.int .i64,.int .i64] [.int .i64] (en 30 [sR] [] [(4,⟨⟨[(18,.v (.int .i64))],[]⟩,[2,3,16,17],[],[]⟩)]) Tryz.func73 (fun it a=>TH it a.1 a.2.1 a.2.2.1 a.2.2.2.1) (by kernel_rfl) (by kernel_rfl) (fun _=>rfl) (aO _)
def TG (it:It Int) (r:aw) (p:cY):Option Int :=
 (f70 p.Gs 0 (aj (r.eX - 1))).bind fun r2 =>
 bif (!r2) then
 some 7
 else
 (f106 p.uq 0 5000).bind fun r3 =>
 bif (r3 != 0) then
 some r3
 else
 (f70 p.bu 0 1439).bind fun r4 =>
 bif (!r4) then
 bif (!r4) then
 some 2
 else
 bif (p.jG != 0) then
 (f70 p.jG 1 3).bind fun r5 =>
 bif (!r5) then
 some 4
 else
 bif (p.jG == 0) then
 (f73 p.nX 0 0 5000).bind fun r6 =>
 some r6
 else
 (f73 p.nX r.eX 0 5000).bind fun r7 =>
 some r7
 else
 bif (p.jG == 0) then
 (f73 p.nX 0 0 5000).bind fun r8 =>
 some r8
 else
 (f73 p.nX r.eX 0 5000).bind fun r9 =>
 some r9
 else
 (f70 p.To 0 1439).bind fun dN =>
 bif (!dN) then
 some 2
 else
 bif (p.jG != 0) then
 (f70 p.jG 1 3).bind fun jC =>
 bif (!jC) then
 some 4
 else
 bif (p.jG == 0) then
 (f73 p.nX 0 0 5000).bind fun fX =>
 some fX
 else
 (f73 p.nX r.eX 0 5000).bind fun jD =>
 some jD
 else
 bif (p.jG == 0) then
 (f73 p.nX 0 0 5000).bind fun j7 =>
 some j7
 else
 (f73 p.nX r.eX 0 5000).bind fun jo =>
 some jo
def f72 (r:aw) (p:cY):Option Int:=bT (fun (a:aE [.aw,.cY])=>TG aB a.1 a.2.1) (r,p,())
theorem aiU (r:aw) (p:cY):f72 r p=TG aB r p:=bK
def acv:ak ae.toSeat:=cy 72 [.aw,.cY] [.int .i64] (en 50 [uf,sR,OE] [] []) Tryz.func72 (fun it a=>TG it a.1 a.2.1) (by kernel_rfl) (by kernel_rfl) (fun _=>rfl) (aO _)
def Xe (l:List cd) (cB:Int) (aT:Int→Option Int):Option Int :=
 bif (decide (cB<(l.length:Int))) then
 ao (decide (0≤cB)&&decide (cB<(l.length:Int))) <|
 (f70 ((l.getD cB.toNat aR).kv) (-400) 400).bind fun r =>
 bif (!r) then
 some 2
 else
 bif (cB == 0) then
 bif ((l.getD cB.toNat aR).kv != (-400)) then
 bif ((l.getD cB.toNat aR).kv != (-400)) then
 some 11
 else
 (f106 ((l.getD cB.toNat aR).bp) 0 5000).bind fun r2 =>
 bif (r2 != 0) then
 some r2
 else
 bif (decide (cB > 0)) then
 ao (decide (0≤(aj (cB - 1)))&&decide ((aj (cB - 1))<(l.length:Int))) <|
 bif (decide ((l.getD cB.toNat aR).bp.Lo<(l.getD (aj (cB - 1)).toNat aR).bp.Lo)) then
 some 11
 else
 ao (decide (0≤(aj (cB - 1)))&&decide ((aj (cB - 1))<(l.length:Int))) <|
 bif (decide ((l.getD cB.toNat aR).bp.Hi<(l.getD (aj (cB - 1)).toNat aR).bp.Hi)) then
 some 11
 else
 aT (aj (cB+1))
 else
 aT (aj (cB+1))
 else
 bif (decide (cB > 0)) then
 ao (decide (0≤(aj (cB - 1)))&&decide ((aj (cB - 1))<(l.length:Int))) <|
 bif (decide ((l.getD cB.toNat aR).kv≤(l.getD (aj (cB - 1)).toNat aR).kv)) then
 some 11
 else
 (f106 ((l.getD cB.toNat aR).bp) 0 5000).bind fun r3 =>
 bif (r3 != 0) then
 some r3
 else
 bif (decide (cB > 0)) then
 ao (decide (0≤(aj (cB - 1)))&&decide ((aj (cB - 1))<(l.length:Int))) <|
 bif (decide ((l.getD cB.toNat aR).bp.Lo<(l.getD (aj (cB - 1)).toNat aR).bp.Lo)) then
 some 11
 else
 ao (decide (0≤(aj (cB - 1)))&&decide ((aj (cB - 1))<(l.length:Int))) <|
 bif (decide ((l.getD cB.toNat aR).bp.Hi<(l.getD (aj (cB - 1)).toNat aR).bp.Hi)) then
 some 11
 else
 aT (aj (cB+1))
 else
 aT (aj (cB+1))
 else
 (f106 ((l.getD cB.toNat aR).bp) 0 5000).bind fun r4 =>
 bif (r4 != 0) then
 some r4
 else
 bif (decide (cB > 0)) then
 ao (decide (0≤(aj (cB - 1)))&&decide ((aj (cB - 1))<(l.length:Int))) <|
 bif (decide ((l.getD cB.toNat aR).bp.Lo<(l.getD (aj (cB - 1)).toNat aR).bp.Lo)) then
 some 11
 else
 ao (decide (0≤(aj (cB - 1)))&&decide ((aj (cB - 1))<(l.length:Int))) <|
 bif (decide ((l.getD cB.toNat aR).bp.Hi<(l.getD (aj (cB - 1)).toNat aR).bp.Hi)) then
 some 11
 else
 aT (aj (cB+1))
 else
 aT (aj (cB+1))
 else
 bif (decide (cB > 0)) then
 ao (decide (0≤(aj (cB - 1)))&&decide ((aj (cB - 1))<(l.length:Int))) <|
 bif (decide ((l.getD cB.toNat aR).kv≤(l.getD (aj (cB - 1)).toNat aR).kv)) then
 some 11
 else
 (f106 ((l.getD cB.toNat aR).bp) 0 5000).bind fun r5 =>
 bif (r5 != 0) then
 some r5
 else
 bif (decide (cB > 0)) then
 ao (decide (0≤(aj (cB - 1)))&&decide ((aj (cB - 1))<(l.length:Int))) <|
 bif (decide ((l.getD cB.toNat aR).bp.Lo<(l.getD (aj (cB - 1)).toNat aR).bp.Lo)) then
 some 11
 else
 ao (decide (0≤(aj (cB - 1)))&&decide ((aj (cB - 1))<(l.length:Int))) <|
 bif (decide ((l.getD cB.toNat aR).bp.Hi<(l.getD (aj (cB - 1)).toNat aR).bp.Hi)) then
 some 11
 else
 aT (aj (cB+1))
 else
 aT (aj (cB+1))
 else
 (f106 ((l.getD cB.toNat aR).bp) 0 5000).bind fun r6 =>
 bif (r6 != 0) then
 some r6
 else
 bif (decide (cB > 0)) then
 ao (decide (0≤(aj (cB - 1)))&&decide ((aj (cB - 1))<(l.length:Int))) <|
 bif (decide ((l.getD cB.toNat aR).bp.Lo<(l.getD (aj (cB - 1)).toNat aR).bp.Lo)) then
 some 11
 else
 ao (decide (0≤(aj (cB - 1)))&&decide ((aj (cB - 1))<(l.length:Int))) <|
 bif (decide ((l.getD cB.toNat aR).bp.Hi<(l.getD (aj (cB - 1)).toNat aR).bp.Hi)) then
 some 11
 else
 aT (aj (cB+1))
 else
 aT (aj (cB+1))
 else
 some 0
def TI (it:It Int) (l:List cd):Option Int :=
 bif ((l.length:Int) == 0) then
 some 6
 else
 bif (decide ((l.length:Int) > 20)) then
 some 8
 else
 it _ (fun (v_0:(Int×Unit)×(Unit)) kn=>Xe l v_0.1.1 (fun y0=>kn ((y0,()),(())))) ((0,()),(()))
def f74 (l:List cd):Option Int:=bT (fun (a:aE [.sl .cd])=>TI aB a.1) (l,())
theorem aiW (l:List cd):f74 l=TI aB l:=bK
def acw:ak ae.toSeat:=cy 74 [.sl .cd] [.int .i64] (en 82 [uf,sR] [] [(6,⟨⟨[(16,.v (.int .i64))],[]⟩,[0,14,15],[],[]⟩)]) Tryz.func74 (fun it a=>TI it a.1) (by kernel_rfl) (by kernel_rfl) (fun _=>rfl) (aO _)
def Qr (r:aw) (ZP:Int) (cW:Int→Option Int):Option Int :=
 bif (decide (ZP<(r.cT.length:Int))) then
 ao (decide (0≤ZP)&&decide (ZP<(r.cT.length:Int))) <|
 (f72 r (r.cT.getD ZP.toNat ey)).bind fun r4 =>
 bif (r4 != 0) then
 some r4
 else
 cW (aj (ZP+1))
 else
 (f73 r.jb r.eX (-400) 400).bind fun r5 =>
 bif (r5 != 0) then
 some r5
 else
 (f74 r.eR).bind fun r6 =>
 some r6
def WZ (it:It Int) (r:aw) (mn:Int) (aT:Int→Option Int):Option Int :=
 bif (decide (mn<(r.eF.length:Int))) then
 ao (decide (0≤mn)&&decide (mn<(r.eF.length:Int))) <|
 (f71 r (r.eF.getD mn.toNat ia)).bind fun r3 =>
 bif (r3 != 0) then
 some r3
 else
 aT (aj (mn+1))
 else
 bif (decide ((r.cT.length:Int) > 12)) then
 some 8
 else
 it _ (fun (v_0:(Unit×Int×Unit)×(Unit)) kn=>Qr r v_0.1.2.1 (fun y0=>kn (((),y0,()),(())))) (((),0,()),(()))
def Td (it:It Int) (r:aw):Option Int :=
 (f70 r.eX 1 40).bind fun r2 =>
 bif (!r2) then
 some 2
 else
 bif (decide ((r.eF.length:Int) > 120)) then
 some 8
 else
 it _ (fun (v_0:(Unit×Int×Unit)×(Unit)) kn=>WZ it r v_0.1.2.1 (fun y0=>kn (((),y0,()),(())))) (((),0,()),(()))
def f35 (r:aw):Option Int:=bT (fun (a:aE [.aw])=>Td aB a.1) (r,())
theorem aip (r:aw):f35 r=Td aB r:=bK
def acj:ak ae.toSeat:=cy 35 [.aw] [.int .i64] (en 63 [uf,acu,acv,OE,acw] [] [(6,⟨⟨[(1,.bx 1 0),(23,.v (.int .i64))],[]⟩,[21,22],[1],[]⟩),(15,⟨⟨[(1,.bx 1 0),(41,.v (.int .i64))],[]⟩,[39,40],[1],[]⟩)]) Tryz.func35 (fun it a=>Td it a.1) (by kernel_rfl) (by kernel_rfl) (fun _=>rfl) (aO _)
def aax (it:It Bool) (n:Int) (low:Int) (high:Int):Option Bool :=
 bif (decide (n<low)) then
 some true
 else
 some (decide (n > high))
def f90 (n:Int) (low:Int) (high:Int):Option Bool:=bT (fun (a:aE [.int .i64,.int .i64,.int .i64])=>aax aB a.1 a.2.1 a.2.2.1) (n,low,high,())
theorem ajc (n:Int) (low:Int) (high:Int):f90 n low high=aax aB n low high:=bK
def OH:ak ae.toSeat:=cy 90 [.int .i64,.int .i64,.int .i64] [.bool] (en 15 [] [] []) Tryz.func90 (fun it a=>aax it a.1 a.2.1 a.2.2.1) (by kernel_rfl) (by kernel_rfl) (fun _=>rfl) (aO _)
def JA (it:It Int) (x:Span) (low:Int) (high:Int):Option Int :=
 (f90 x.Lo low high).bind fun r =>
 bif r then
 some 2
 else
 (f90 x.Hi low high).bind fun r2 =>
 bif r2 then
 some 2
 else
 bif (decide (x.Lo > x.Hi)) then
 some 11
 else
 some 0
def f116 (x:Span) (low:Int) (high:Int):Option Int:=bT (fun (a:aE [.Span,.int .i64,.int .i64])=>JA aB a.1 a.2.1 a.2.2.1) (x,low,high,())
theorem afC (x:Span) (low:Int) (high:Int):f116 x low high=JA aB x low high:=bK
def Kl:ak ae.toSeat:=cy 116 [.Span,.int .i64,.int .i64] [.int .i64] (en 24 [OH] [] []) Tryz.func116 (fun it a=>JA it a.1 a.2.1 a.2.2.1) (by kernel_rfl) (by kernel_rfl) (fun _=>rfl) (aO _)
def Xm (r:aw) (i:Int) (aT:Int→Option Int):Option Int :=
 bif (decide (i<(r.eF.length:Int))) then
 ao (decide (0≤i)&&decide (i<(r.eF.length:Int))) <|
 (f90 ((r.eF.getD i.toNat ia).A) 0 (aj (r.eX - 1))).bind fun r2 =>
 bif r2 then
 some 7
 else
 (f90 ((r.eF.getD i.toNat ia).B) 0 (aj (r.eX - 1))).bind fun r3 =>
 bif r3 then
 some 7
 else
 bif ((r.eF.getD i.toNat ia).A == (r.eF.getD i.toNat ia).B) then
 some 12
 else
 (f116 ((r.eF.getD i.toNat ia).Time) 0 5000).bind fun r4 =>
 bif (r4 != 0) then
 some r4
 else
 (f90 ((r.eF.getD i.toNat ia).Open) 1 3).bind fun r5 =>
 bif r5 then
 some 4
 else
 aT (aj (i+1))
 else
 some 0
def TW (it:It Int) (r:aw):Option Int :=
 bif (decide ((r.eF.length:Int) > 120)) then
 some 8
 else
 it _ (fun (v_0:(Unit×Int×Unit)×(Unit)) kn=>Xm r v_0.1.2.1 (fun y0=>kn (((),y0,()),(())))) (((),0,()),(()))
def f91 (r:aw):Option Int:=bT (fun (a:aE [.aw])=>TW aB a.1) (r,())
theorem ajd (r:aw):f91 r=TW aB r:=bK
def asZ:ak ae.toSeat:=cy 91 [.aw] [.int .i64] (en 50 [OH,Kl] [] [(4,⟨⟨[(1,.bx 1 0),(3,.v (.int .i64))],[]⟩,[],[1],[]⟩)]) Tryz.func91 (fun it a=>TW it a.1) (by kernel_rfl) (by kernel_rfl) (fun _=>rfl) (aO _)
def Xo (l:List Span) (low:Int) (high:Int) (i:Int) (aT:Int→Option Int):Option Int :=
 bif (decide (i<(l.length:Int))) then
 ao (decide (0≤i)&&decide (i<(l.length:Int))) <|
 (f116 (l.getD i.toNat cf) low high).bind fun r =>
 bif (r != 0) then
 some r
 else
 aT (aj (i+1))
 else
 some 0
def TY (it:It Int) (l:List Span) (many:Int) (low:Int) (high:Int):Option Int :=
 bif ((l.length:Int) != many) then
 some 3
 else
 it _ (fun (v_0:(Int×Unit)×(Unit)) kn=>Xo l low high v_0.1.1 (fun y0=>kn ((y0,()),(())))) ((0,()),(()))
def f93 (l:List Span) (many:Int) (low:Int) (high:Int):Option Int:=bT (fun (a:aE [.sl .Span,.int .i64,.int .i64,.int .i64])=>TY aB a.1 a.2.1 a.2.2.1 a.2.2.2.1) (l,many,low,high,())
theorem ajf (l:List Span) (many:Int) (low:Int) (high:Int):f93 l many low high=TY aB l many low high:=bK
def alX:ak ae.toSeat:=cy 93 [.sl .Span,.int .i64,.int .i64,.int .i64] [.int .i64] (en 31 [Kl] [] [(4,⟨⟨[(9,.v (.int .i64))],[]⟩,[0,2,3],[],[]⟩)]) Tryz.func93 (fun it a=>TY it a.1 a.2.1 a.2.2.1 a.2.2.2.1) (by kernel_rfl) (by kernel_rfl) (fun _=>rfl) (aO _)
def Xn (r:aw) (i:Int) (aT:Int→Option Int):Option Int :=
 bif (decide (i<(r.cT.length:Int))) then
 ao (decide (0≤i)&&decide (i<(r.cT.length:Int))) <|
 (f90 ((r.cT.getD i.toNat ey).Gs) 0 (aj (r.eX - 1))).bind fun r2 =>
 bif r2 then
 some 7
 else
 (f116 ((r.cT.getD i.toNat ey).uq) 0 5000).bind fun r3 =>
 bif (r3 != 0) then
 some r3
 else
 (f90 ((r.cT.getD i.toNat ey).bu) 0 1439).bind fun r4 =>
 bif r4 then
 some 2
 else
 (f90 ((r.cT.getD i.toNat ey).To) 0 1439).bind fun r5 =>
 bif r5 then
 some 2
 else
 (f90 ((r.cT.getD i.toNat ey).jG) 0 3).bind fun r6 =>
 bif r6 then
 some 4
 else
 bif ((r.cT.getD i.toNat ey).jG != 0) then
 (f93 ((r.cT.getD i.toNat ey).nX) r.eX 0 5000).bind fun r7 =>
 bif (r7 != 0) then
 some r7
 else
 aT (aj (i+1))
 else
 (f93 ((r.cT.getD i.toNat ey).nX) 0 0 5000).bind fun r8 =>
 bif (r8 != 0) then
 some r8
 else
 aT (aj (i+1))
 else
 some 0
def TX (it:It Int) (r:aw):Option Int :=
 bif (decide ((r.cT.length:Int) > 12)) then
 some 8
 else
 it _ (fun (v_0:(Unit×Int×Unit)×(Unit)) kn=>Xn r v_0.1.2.1 (fun y0=>kn (((),y0,()),(())))) (((),0,()),(()))
def f92 (r:aw):Option Int:=bT (fun (a:aE [.aw])=>TX aB a.1) (r,())
theorem aje (r:aw):f92 r=TX aB r:=bK
def as0:ak ae.toSeat:=cy 92 [.aw] [.int .i64] (en 59 [OH,Kl,alX] [] [(4,⟨⟨[(1,.bx 1 0),(3,.v (.int .i64))],[]⟩,[],[1],[]⟩)]) Tryz.func92 (fun it a=>TX it a.1) (by kernel_rfl) (by kernel_rfl) (fun _=>rfl) (aO _)
def Xp (l:List cd) (i:Int) (aT:Int→Option Int):Option Int :=
 bif (decide (i<(l.length:Int))) then
 ao (decide (0≤i)&&decide (i<(l.length:Int))) <|
 (f90 ((l.getD i.toNat aR).kv) (-400) 400).bind fun r =>
 bif r then
 some 2
 else
 bif (i == 0) then
 ao (decide (0≤i)&&decide (i<(l.length:Int))) <|
 bif ((l.getD i.toNat aR).kv != (-400)) then
 some 11
 else
 bif (decide (i > 0)) then
 ao (decide (0≤i)&&decide (i<(l.length:Int))) <|
 ao (decide (0≤(aj (i - 1)))&&decide ((aj (i - 1))<(l.length:Int))) <|
 bif (decide ((l.getD i.toNat aR).kv≤(l.getD (aj (i - 1)).toNat aR).kv)) then
 some 11
 else
 ao (decide (0≤i)&&decide (i<(l.length:Int))) <|
 (f116 ((l.getD i.toNat aR).bp) 0 5000).bind fun r2 =>
 bif (r2 != 0) then
 some r2
 else
 bif (decide (i > 0)) then
 ao (decide (0≤i)&&decide (i<(l.length:Int))) <|
 ao (decide (0≤(aj (i - 1)))&&decide ((aj (i - 1))<(l.length:Int))) <|
 bif (decide ((l.getD i.toNat aR).bp.Lo<(l.getD (aj (i - 1)).toNat aR).bp.Lo)) then
 some 11
 else
 ao (decide (0≤i)&&decide (i<(l.length:Int))) <|
 ao (decide (0≤(aj (i - 1)))&&decide ((aj (i - 1))<(l.length:Int))) <|
 bif (decide ((l.getD i.toNat aR).bp.Hi<(l.getD (aj (i - 1)).toNat aR).bp.Hi)) then
 some 11
 else
 aT (aj (i+1))
 else
 aT (aj (i+1))
 else
 ao (decide (0≤i)&&decide (i<(l.length:Int))) <|
 (f116 ((l.getD i.toNat aR).bp) 0 5000).bind fun r3 =>
 bif (r3 != 0) then
 some r3
 else
 bif (decide (i > 0)) then
 ao (decide (0≤i)&&decide (i<(l.length:Int))) <|
 ao (decide (0≤(aj (i - 1)))&&decide ((aj (i - 1))<(l.length:Int))) <|
 bif (decide ((l.getD i.toNat aR).bp.Lo<(l.getD (aj (i - 1)).toNat aR).bp.Lo)) then
 some 11
 else
 ao (decide (0≤i)&&decide (i<(l.length:Int))) <|
 ao (decide (0≤(aj (i - 1)))&&decide ((aj (i - 1))<(l.length:Int))) <|
 bif (decide ((l.getD i.toNat aR).bp.Hi<(l.getD (aj (i - 1)).toNat aR).bp.Hi)) then
 some 11
 else
 aT (aj (i+1))
 else
 aT (aj (i+1))
 else
 bif (decide (i > 0)) then
 ao (decide (0≤i)&&decide (i<(l.length:Int))) <|
 ao (decide (0≤(aj (i - 1)))&&decide ((aj (i - 1))<(l.length:Int))) <|
 bif (decide ((l.getD i.toNat aR).kv≤(l.getD (aj (i - 1)).toNat aR).kv)) then
 some 11
 else
 ao (decide (0≤i)&&decide (i<(l.length:Int))) <|
 (f116 ((l.getD i.toNat aR).bp) 0 5000).bind fun r4 =>
 bif (r4 != 0) then
 some r4
 else
 bif (decide (i > 0)) then
 ao (decide (0≤i)&&decide (i<(l.length:Int))) <|
 ao (decide (0≤(aj (i - 1)))&&decide ((aj (i - 1))<(l.length:Int))) <|
 bif (decide ((l.getD i.toNat aR).bp.Lo<(l.getD (aj (i - 1)).toNat aR).bp.Lo)) then
 some 11
 else
 ao (decide (0≤i)&&decide (i<(l.length:Int))) <|
 ao (decide (0≤(aj (i - 1)))&&decide ((aj (i - 1))<(l.length:Int))) <|
 bif (decide ((l.getD i.toNat aR).bp.Hi<(l.getD (aj (i - 1)).toNat aR).bp.Hi)) then
 some 11
 else
 aT (aj (i+1))
 else
 aT (aj (i+1))
 else
 ao (decide (0≤i)&&decide (i<(l.length:Int))) <|
 (f116 ((l.getD i.toNat aR).bp) 0 5000).bind fun r5 =>
 bif (r5 != 0) then
 some r5
 else
 bif (decide (i > 0)) then
 ao (decide (0≤i)&&decide (i<(l.length:Int))) <|
 ao (decide (0≤(aj (i - 1)))&&decide ((aj (i - 1))<(l.length:Int))) <|
 bif (decide ((l.getD i.toNat aR).bp.Lo<(l.getD (aj (i - 1)).toNat aR).bp.Lo)) then
 some 11
 else
 ao (decide (0≤i)&&decide (i<(l.length:Int))) <|
 ao (decide (0≤(aj (i - 1)))&&decide ((aj (i - 1))<(l.length:Int))) <|
 bif (decide ((l.getD i.toNat aR).bp.Hi<(l.getD (aj (i - 1)).toNat aR).bp.Hi)) then
 some 11
 else
 aT (aj (i+1))
 else
 aT (aj (i+1))
 else
 some 0
def TZ (it:It Int) (l:List cd):Option Int :=
 bif ((l.length:Int) == 0) then
 some 6
 else
 bif (decide ((l.length:Int) > 20)) then
 some 8
 else
 it _ (fun (v_0:(Int×Unit)×(Unit)) kn=>Xp l v_0.1.1 (fun y0=>kn ((y0,()),(())))) ((0,()),(()))
def f94 (l:List cd):Option Int:=bT (fun (a:aE [.sl .cd])=>TZ aB a.1) (l,())
theorem ajg (l:List cd):f94 l=TZ aB l:=bK
def as1:ak ae.toSeat:=cy 94 [.sl .cd] [.int .i64] (en 94 [OH,Kl] [] [(6,⟨⟨[(3,.v (.int .i64))],[]⟩,[0],[],[]⟩)]) Tryz.func94 (fun it a=>TZ it a.1) (by kernel_rfl) (by kernel_rfl) (fun _=>rfl) (aO _)
def Tp (it:It Int) (r:aw):Option Int :=
 (f90 r.eX 1 40).bind fun r2 =>
 bif r2 then
 some 2
 else
 (f91 r).bind fun r3 =>
 bif (r3 != 0) then
 some r3
 else
 (f92 r).bind fun r4 =>
 bif (r4 != 0) then
 some r4
 else
 (f93 r.jb r.eX (-400) 400).bind fun r5 =>
 bif (r5 != 0) then
 some r5
 else
 (f94 r.eR).bind fun r6 =>
 some r6
def f46 (r:aw):Option Int:=bT (fun (a:aE [.aw])=>Tp aB a.1) (r,())
theorem aiA (r:aw):f46 r=Tp aB r:=bK
def asH:ak ae.toSeat:=cy 46 [.aw] [.int .i64] (en 30 [OH,asZ,as0,alX,as1] [] []) Tryz.func46 (fun it a=>Tp it a.1) (by kernel_rfl) (by kernel_rfl) (fun _=>rfl) (aO _)
def TJ (it:It Bool) (n:Int) (low:Int) (high:Int):Option Bool :=
 bif (decide (low≤n)) then
 some (decide (n≤high))
 else
 some false
def f75 (n:Int) (low:Int) (high:Int):Option Bool:=bT (fun (a:aE [.int .i64,.int .i64,.int .i64])=>TJ aB a.1 a.2.1 a.2.2.1) (n,low,high,())
theorem aiX (n:Int) (low:Int) (high:Int):f75 n low high=TJ aB n low high:=bK
def qm:ak ae.toSeat:=cy 75 [.int .i64,.int .i64,.int .i64] [.bool] (en 15 [] [] []) Tryz.func75 (fun it a=>TJ it a.1 a.2.1 a.2.2.1) (by kernel_rfl) (by kernel_rfl) (fun _=>rfl) (aO _)
def mO (u:br) (rX:Int) (aT:Int→Option Int):Option Int :=
 bif (decide (rX<4)) then
 bif rX == 0 then
 (f75 u.lS 1 3000).bind fun r =>
 bif (!r) then
 some 2
 else
 aT (aj (rX+1))
 else
 bif rX == 1 then
 (f75 u.Rest 1 3000).bind fun r2 =>
 bif (!r2) then
 some 2
 else
 aT (aj (rX+1))
 else
 bif rX == 2 then
 (f75 u.Day 1 3000).bind fun r3 =>
 bif (!r3) then
 some 2
 else
 aT (aj (rX+1))
 else
 bif rX == 3 then
 (f75 u.pB 1 3000).bind fun r4 =>
 bif (!r4) then
 some 2
 else
 aT (aj (rX+1))
 else
 none
 else
 some 0
def Tf (it:It Int) (u:br):Option Int :=
 it _ (fun (v_0:(Int×Unit)×(Unit)) kn=>mO u v_0.1.1 (fun y0=>kn ((y0,()),(())))) ((0,()),(()))
def f37 (u:br):Option Int:=bT (fun (a:aE [.br])=>Tf aB a.1) (u,())
theorem air (u:br):f37 u=Tf aB u:=bK
def VB:ak ae.toSeat:=cy 37 [.br] [.int .i64] (en 21 [qm] [] [(2,⟨⟨[(14,.v (.int .i64))],[]⟩,[13],[],[]⟩)]) Tryz.func37 (fun it a=>Tf it a.1) (by kernel_rfl) (by kernel_rfl) (fun _=>rfl) (aO _)
def Js (it:It Int) (x:Span):Option Int :=
 (f75 x.Lo 0 3000).bind fun r =>
 bif (!r) then
 bif (!r) then
 some 2
 else
 bif (decide (x.Lo > x.Hi)) then
 some 11
 else
 some 0
 else
 (f75 x.Hi 0 3000).bind fun r2 =>
 bif (!r2) then
 some 2
 else
 bif (decide (x.Lo > x.Hi)) then
 some 11
 else
 some 0
def f108 (x:Span):Option Int:=bT (fun (a:aE [.Span])=>Js aB a.1) (x,())
theorem aft (x:Span):f108 x=Js aB x:=bK
def Vs:ak ae.toSeat:=cy 108 [.Span] [.int .i64] (en 18 [qm] [] []) Tryz.func108 (fun it a=>Js it a.1) (by kernel_rfl) (by kernel_rfl) (fun _=>rfl) (aO _)
def Qu (d:Driver) (vg:Int) (aT:Int→Option Int):Option Int :=
 bif (decide (vg<(d.bO.length:Int))) then
 ao (decide (0≤vg)&&decide (vg<(d.bO.length:Int))) <|
 (f108 ((d.bO.getD vg.toNat cS).bu)).bind fun r2 =>
 bif (r2 != 0) then
 some r2
 else
 (f108 ((d.bO.getD vg.toNat cS).To)).bind fun r3 =>
 bif (r3 != 0) then
 some r3
 else
 bif (decide ((d.bO.getD vg.toNat cS).bu.Hi > (d.bO.getD vg.toNat cS).To.Lo)) then
 some 11
 else
 bif (decide (vg > 0)) then
 ao (decide (0≤(aj (vg - 1)))&&decide ((aj (vg - 1))<(d.bO.length:Int))) <|
 bif (decide ((d.bO.getD vg.toNat cS).bu.Lo<(d.bO.getD (aj (vg - 1)).toNat cS).To.Hi)) then
 some 12
 else
 aT (aj (vg+1))
 else
 aT (aj (vg+1))
 else
 some 0
def EA (d:Driver) (qp:Int) (cW:Int→Option Int):Option Int :=
 bif (decide (qp<(d.bO.length:Int))) then
 ao (decide (0≤qp)&&decide (qp<(d.bO.length:Int))) <|
 (f108 ((d.bO.getD qp.toNat cS).bu)).bind fun r5 =>
 bif (r5 != 0) then
 some r5
 else
 (f108 ((d.bO.getD qp.toNat cS).To)).bind fun r6 =>
 bif (r6 != 0) then
 some r6
 else
 bif (decide ((d.bO.getD qp.toNat cS).bu.Hi > (d.bO.getD qp.toNat cS).To.Lo)) then
 some 11
 else
 bif (decide (qp > 0)) then
 ao (decide (0≤(aj (qp - 1)))&&decide ((aj (qp - 1))<(d.bO.length:Int))) <|
 bif (decide ((d.bO.getD qp.toNat cS).bu.Lo<(d.bO.getD (aj (qp - 1)).toNat cS).To.Hi)) then
 some 12
 else
 cW (aj (qp+1))
 else
 cW (aj (qp+1))
 else
 some 0
def sK (d:Driver) (qq:Int) (jO:Int→Option Int):Option Int :=
 bif (decide (qq<(d.bO.length:Int))) then
 ao (decide (0≤qq)&&decide (qq<(d.bO.length:Int))) <|
 (f108 ((d.bO.getD qq.toNat cS).bu)).bind fun r9 =>
 bif (r9 != 0) then
 some r9
 else
 (f108 ((d.bO.getD qq.toNat cS).To)).bind fun dN =>
 bif (dN != 0) then
 some dN
 else
 bif (decide ((d.bO.getD qq.toNat cS).bu.Hi > (d.bO.getD qq.toNat cS).To.Lo)) then
 some 11
 else
 bif (decide (qq > 0)) then
 ao (decide (0≤(aj (qq - 1)))&&decide ((aj (qq - 1))<(d.bO.length:Int))) <|
 bif (decide ((d.bO.getD qq.toNat cS).bu.Lo<(d.bO.getD (aj (qq - 1)).toNat cS).To.Hi)) then
 some 12
 else
 jO (aj (qq+1))
 else
 jO (aj (qq+1))
 else
 some 0
def TK (it:It Int) (d:Driver):Option Int :=
 bif (decide ((d.Name.size:Int)<1)) then
 bif (decide ((d.Name.size:Int)<1)) then
 some 3
 else
 (f75 d.lu 0 255).bind fun r =>
 bif (!r) then
 some 2
 else
 bif (decide ((d.bO.length:Int) > 20)) then
 some 8
 else
 it _ (fun (v_0:(Unit×Int×Unit)×(Unit)) kn=>Qu d v_0.1.2.1 (fun y0=>kn (((),y0,()),(())))) (((),0,()),(()))
 else
 bif (decide ((d.Name.size:Int) > 8)) then
 bif (decide ((d.Name.size:Int) > 8)) then
 some 3
 else
 (f75 d.lu 0 255).bind fun r4 =>
 bif (!r4) then
 some 2
 else
 bif (decide ((d.bO.length:Int) > 20)) then
 some 8
 else
 it _ (fun (v_0:(Unit×Int×Unit)×(Unit)) kn=>EA d v_0.1.2.1 (fun y0=>kn (((),y0,()),(())))) (((),0,()),(()))
 else
 (cZ.trim d.Name (⟨#[97,98,99,100,101,102,103,104,105,106,107,108,109,110,111,112,113,114,115,116,117,118,119,120,121,122]⟩:ByteArray)).bind fun r7 =>
 bif (!(r7.toList == (⟨#[]⟩:ByteArray).toList)) then
 some 3
 else
 (f75 d.lu 0 255).bind fun r8 =>
 bif (!r8) then
 some 2
 else
 bif (decide ((d.bO.length:Int) > 20)) then
 some 8
 else
 it _ (fun (v_0:(Unit×Int×Unit)×(Unit)) kn=>sK d v_0.1.2.1 (fun y0=>kn (((),y0,()),(())))) (((),0,()),(()))
def f76 (d:Driver):Option Int:=bT (fun (a:aE [.Driver])=>TK aB a.1) (d,())
theorem aiY (d:Driver):f76 d=TK aB d:=bK
def VG:ak ae.toSeat:=cy 76 [.Driver] [.int .i64] (en 76 [qm,Vs,cZ.ad7] [] [(10,⟨⟨[(1,.bx 1 0),(33,.v (.int .i64))],[]⟩,[31,32],[1],[]⟩)]) Tryz.func76 (fun it a=>TK it a.1) (by kernel_rfl) (by kernel_rfl) (fun _=>rfl) (aO _)
def TM (it:It Bool) (x:Driver) (a1:Driver):Option Bool :=
 some (x.Name.toList == a1.Name.toList)
def f78 (x:Driver) (a1:Driver):Option Bool:=bT (fun (a:aE [.Driver,.ptr .Driver])=>TM aB a.1 a.2.1) (x,a1,())
theorem ai1 (x:Driver) (a1:Driver):f78 x a1=TM aB x a1:=bK
def OF:ak ae.toSeat:=cy 78 [.Driver,.ptr .Driver] [.bool] (en 9 [] [] []) Tryz.func78 (fun it a=>TM it a.1 a.2.1) (by kernel_rfl) (by kernel_rfl) (fun _=>rfl) (aO _)
def Ql (s:List Driver) (f:Driver) (x8:Int) (aT:Int→Option Int):Option Int :=
 bif (decide (x8<(s.length:Int))) then
 ao (decide (0≤x8)&&decide (x8<(s.length:Int))) <|
 (f78 (s.getD x8.toNat cR) f).bind fun r =>
 bif r then
 some x8
 else
 aT (aj (x8+1))
 else
 some (-1)
def Jt (it:It Int) (s:List Driver) (f:Driver):Option Int :=
 it _ (fun (v_0:(Int×Unit)×(Unit)) kn=>Ql s f v_0.1.1 (fun y0=>kn ((y0,()),(())))) ((0,()),(()))
def f109 (s:List Driver) (f:Driver):Option Int:=bT (fun (a:aE [.sl .Driver,.nK 78 .Driver])=>Jt aB a.1 a.2.1) (s,f,())
theorem afv (s:List Driver) (f:Driver):f109 s f=Jt aB s f:=bK
def Kk:ak ae.toSeat:=cy 109 [.sl .Driver,.nK 78 .Driver] [.int .i64] (en 19 [OF] [] [(2,⟨⟨[(8,.v (.int .i64))],[]⟩,[0,1,7],[],[]⟩)]) Tryz.func109 (fun it a=>Jt it a.1 a.2.1) (by kernel_rfl) (by kernel_rfl) (fun _=>rfl) (aO _)
def TL (it:It Bool) (s:List Driver) (f:Driver):Option Bool :=
 (f109 s f).bind fun r =>
 some (decide (r ≥ 0))
def f77 (s:List Driver) (f:Driver):Option Bool:=bT (fun (a:aE [.sl .Driver,.nK 78 .Driver])=>TL aB a.1 a.2.1) (s,f,())
theorem aiZ (s:List Driver) (f:Driver):f77 s f=TL aB s f:=bK
def acx:ak ae.toSeat:=cy 77 [.sl .Driver,.nK 78 .Driver] [.bool] (en 9 [Kk] [] []) Tryz.func77 (fun it a=>TL it a.1 a.2.1) (by kernel_rfl) (by kernel_rfl) (fun _=>rfl) (aO _)
def W0 (l:List Driver) (cB:Int) (aT:Int→Option Int):Option Int :=
 bif (decide (cB<(l.length:Int))) then
 ao (decide (0≤cB)&&decide (cB<(l.length:Int))) <|
 (f76 (l.getD cB.toNat cR)).bind fun r =>
 bif (r != 0) then
 some r
 else
 bif (decide ((((l.getD cB.toNat cR).bO).length:Int) > 0)) then
 some 3
 else
 ao (decide (0≤0)&&decide (0≤cB)&&decide (cB≤(l.length:Int))) <|
 (f77 (rb l 0 cB) (l.getD cB.toNat cR)).bind fun r2 =>
 bif r2 then
 some 9
 else
 aT (aj (cB+1))
 else
 some 0
def Th (it:It Int) (l:List Driver):Option Int :=
 bif ((l.length:Int) == 0) then
 some 6
 else
 bif (decide ((l.length:Int) > 4)) then
 some 8
 else
 it _ (fun (v_0:(Int×Unit)×(Unit)) kn=>W0 l v_0.1.1 (fun y0=>kn ((y0,()),(())))) ((0,()),(()))
def f39 (l:List Driver):Option Int:=bT (fun (a:aE [.sl .Driver])=>Th aB a.1) (l,())
theorem ait (l:List Driver):f39 l=Th aB l:=bK
def acn:ak ae.toSeat:=cy 39 [.sl .Driver] [.int .i64] (en 38 [VG,acx] [] [(6,⟨⟨[(16,.v (.int .i64))],[]⟩,[0,14,15],[],[]⟩)]) Tryz.func39 (fun it a=>Th it a.1) (by kernel_rfl) (by kernel_rfl) (fun _=>rfl) (aO _)
def TN (it:It Int) (s:bb):Option Int :=
 (f75 s.Zero 0 1000).bind fun r =>
 bif (!r) then
 some 2
 else
 (f75 s.Part 0 100000).bind fun r2 =>
 bif (!r2) then
 some 2
 else
 some 0
def f79 (s:bb):Option Int:=bT (fun (a:aE [.bb])=>TN aB a.1) (s,())
theorem ai2 (s:bb):f79 s=TN aB s:=bK
def OG:ak ae.toSeat:=cy 79 [.bb] [.int .i64] (en 13 [qm] [] []) Tryz.func79 (fun it a=>TN it a.1) (by kernel_rfl) (by kernel_rfl) (fun _=>rfl) (aO _)
def ai4 (it:It (Span×Int)) (s:bb) (dG:Int):Option (Span×Int) :=
 (f79 s).bind fun r =>
 bif (r != 0) then
 some ((⟨0,0⟩:Span),r)
 else
 (f75 dG 0 100000).bind fun r2 =>
 bif (!r2) then
 some ((⟨0,0⟩:Span),2)
 else
 ao ((aj (1000000+s.Part)) != 0) <|
 ao ((aj (1000000 - s.Part)) != 0) <|
 some ((⟨(aj ((aj ((aj ((aj ((max 0 (aj (dG - s.Zero))) * 1000000))+(aj (1000000+s.Part)))) - 1)).tdiv (aj (1000000+s.Part)))),(aj ((aj ((aj (dG+s.Zero)) * 1000000)).tdiv (aj (1000000 - s.Part))))⟩:Span),0)
def f80 (s:bb) (dG:Int):Option (Span×Int):=bT (fun (a:aE [.bb,.int .i64])=>ai4 aB a.1 a.2.1) (s,dG,())
def acy:ak ae.toSeat:=cy 80 [.bb,.int .i64] [.Span,.int .i64] (en 44 [OG,qm] [] []) Tryz.func80 (fun it a=>ai4 it a.1 a.2.1) (by kernel_rfl) (by kernel_rfl) (fun _=>rfl) (aO _)
def afM (dh:List Int) (s:bb) (a:bR) (ZO:Int) (dI:Int) (dP:Int) (vz:Int) (Cg:Int) (aT:Int→Int→Int→Int→Int→Option (Int×Span×Int)):Option (Int×Span×Int) :=
 bif (decide (ZO<(dh.length:Int))) then
 ao (decide (0≤ZO)&&decide (ZO<(dh.length:Int))) <|
 (f80 s (dh.getD ZO.toNat 0)).bind fun r3 =>
 bif (r3.2 != 0) then
 some (0,(⟨0,0⟩:Span),r3.2)
 else
 aT (aj (ZO+1)) (aj (dI+r3.1.Lo)) (aj (dP+r3.1.Hi)) (max vz r3.1.Lo) (max Cg r3.1.Hi)
 else
 bif (decide (Cg≤a.ju)) then
 bif (decide (dP≤a.Total)) then
 some (1,(⟨dI,dP⟩:Span),0)
 else
 bif (decide (vz > a.ju)) then
 some (2,(⟨dI,dP⟩:Span),0)
 else
 bif (decide (dI > a.Total)) then
 some (2,(⟨dI,dP⟩:Span),0)
 else
 some (3,(⟨dI,dP⟩:Span),0)
 else
 bif (decide (vz > a.ju)) then
 some (2,(⟨dI,dP⟩:Span),0)
 else
 bif (decide (dI > a.Total)) then
 some (2,(⟨dI,dP⟩:Span),0)
 else
 some (3,(⟨dI,dP⟩:Span),0)
def Ez (dh:List Int) (s:bb) (a:bR) (OS:Int) (jr:Int) (j9:Int) (tz:Int) (zP:Int) (cW:Int→Int→Int→Int→Int→Option (Int×Span×Int)):Option (Int×Span×Int) :=
 bif (decide (OS<(dh.length:Int))) then
 ao (decide (0≤OS)&&decide (OS<(dh.length:Int))) <|
 (f80 s (dh.getD OS.toNat 0)).bind fun r5 =>
 bif (r5.2 != 0) then
 some (0,(⟨0,0⟩:Span),r5.2)
 else
 cW (aj (OS+1)) (aj (jr+r5.1.Lo)) (aj (j9+r5.1.Hi)) (max tz r5.1.Lo) (max zP r5.1.Hi)
 else
 bif (decide (zP≤a.ju)) then
 bif (decide (j9≤a.Total)) then
 some (1,(⟨jr,j9⟩:Span),0)
 else
 bif (decide (tz > a.ju)) then
 some (2,(⟨jr,j9⟩:Span),0)
 else
 bif (decide (jr > a.Total)) then
 some (2,(⟨jr,j9⟩:Span),0)
 else
 some (3,(⟨jr,j9⟩:Span),0)
 else
 bif (decide (tz > a.ju)) then
 some (2,(⟨jr,j9⟩:Span),0)
 else
 bif (decide (jr > a.Total)) then
 some (2,(⟨jr,j9⟩:Span),0)
 else
 some (3,(⟨jr,j9⟩:Span),0)
def Tj (it:It (Int×Span×Int)) (s:bb) (dh:List Int) (a:bR):Option (Int×Span×Int) :=
 (f79 s).bind fun r =>
 bif (r != 0) then
 some (0,(⟨0,0⟩:Span),r)
 else
 bif (decide ((dh.length:Int) > 12)) then
 some (0,(⟨0,0⟩:Span),8)
 else
 (f75 a.ju 0 1000000).bind fun r2 =>
 bif (!r2) then
 bif (!r2) then
 some (0,(⟨0,0⟩:Span),2)
 else
 it _ (fun (v_0:(Unit×Unit×Unit×Unit×Int×Unit)×((Int×Int×Unit)×(Int×Int×Unit)×Unit)) kn=>afM dh s a v_0.1.2.2.2.2.1 v_0.2.1.1 v_0.2.1.2.1 v_0.2.2.1.1 v_0.2.2.1.2.1 (fun y0 y1 y2 y3 y4=>kn (((),(),(),(),y0,()),((y1,y2,()),(y3,y4,()),())))) (((),(),(),(),0,()),((0,0,()),(0,0,()),()))
 else
 (f75 a.Total 0 1000000).bind fun r4 =>
 bif (!r4) then
 some (0,(⟨0,0⟩:Span),2)
 else
 it _ (fun (v_0:(Unit×Unit×Unit×Unit×Int×Unit)×((Int×Int×Unit)×(Int×Int×Unit)×Unit)) kn=>Ez dh s a v_0.1.2.2.2.2.1 v_0.2.1.1 v_0.2.1.2.1 v_0.2.2.1.1 v_0.2.2.1.2.1 (fun y0 y1 y2 y3 y4=>kn (((),(),(),(),y0,()),((y1,y2,()),(y3,y4,()),())))) (((),(),(),(),0,()),((0,0,()),(0,0,()),()))
def f41 (s:bb) (dh:List Int) (a:bR):Option (Int×Span×Int):=bT (fun (a:aE [.bb,.sl (.int .i64),.bR])=>Tj aB a.1 a.2.1 a.2.2.1) (s,dh,a,())
theorem aiv (s:bb) (dh:List Int) (a:bR):f41 s dh a=Tj aB s dh a:=bK
def VC:ak ae.toSeat:=cy 41 [.bb,.sl (.int .i64),.bR] [.int .i64,.Span,.int .i64] (en 103 [OG,qm,acy] [] [(11,⟨⟨[(3,.bx 3 0),(5,.bx 5 0),(7,.bx 7 0),(10,.bx 10 0),(38,.v (.int .i64))],[(7,[.v (.int .i64),.v (.int .i64)]),(10,[.v (.int .i64),.v (.int .i64)])]⟩,[36,37],[3,5],[]⟩)]) Tryz.func41 (fun it a=>Tj it a.1 a.2.1 a.2.2.1) (by kernel_rfl) (by kernel_rfl) (fun _=>rfl) (aO _)
def aay (it:It Bool) (n:Int) (low:Int) (high:Int):Option Bool :=
 bif (decide (n<low)) then
 some true
 else
 some (decide (n > high))
def f95 (n:Int) (low:Int) (high:Int):Option Bool:=bT (fun (a:aE [.int .i64,.int .i64,.int .i64])=>aay aB a.1 a.2.1 a.2.2.1) (n,low,high,())
theorem ajh (n:Int) (low:Int) (high:Int):f95 n low high=aay aB n low high:=bK
def HB:ak ae.toSeat:=cy 95 [.int .i64,.int .i64,.int .i64] [.bool] (en 15 [] [] []) Tryz.func95 (fun it a=>aay it a.1 a.2.1 a.2.2.1) (by kernel_rfl) (by kernel_rfl) (fun _=>rfl) (aO _)
def Tq (it:It Int) (u:br):Option Int :=
 (f95 u.lS 1 3000).bind fun r =>
 bif r then
 some 2
 else
 (f95 u.Rest 1 3000).bind fun r2 =>
 bif r2 then
 some 2
 else
 (f95 u.Day 1 3000).bind fun r3 =>
 bif r3 then
 some 2
 else
 (f95 u.pB 1 3000).bind fun r4 =>
 bif r4 then
 some 2
 else
 some 0
def f47 (u:br):Option Int:=bT (fun (a:aE [.br])=>Tq aB a.1) (u,())
theorem aiB (u:br):f47 u=Tq aB u:=bK
def asI:ak ae.toSeat:=cy 47 [.br] [.int .i64] (en 21 [HB] [] []) Tryz.func47 (fun it a=>Tq it a.1) (by kernel_rfl) (by kernel_rfl) (fun _=>rfl) (aO _)
def JC (it:It Int) (x:Span):Option Int :=
 (f95 x.Lo 0 3000).bind fun r =>
 bif r then
 some 2
 else
 (f95 x.Hi 0 3000).bind fun r2 =>
 bif r2 then
 some 2
 else
 bif (decide (x.Lo > x.Hi)) then
 some 11
 else
 some 0
def f118 (x:Span):Option Int:=bT (fun (a:aE [.Span])=>JC aB a.1) (x,())
theorem afF (x:Span):f118 x=JC aB x:=bK
def aox:ak ae.toSeat:=cy 118 [.Span] [.int .i64] (en 16 [HB] [] []) Tryz.func118 (fun it a=>JC it a.1) (by kernel_rfl) (by kernel_rfl) (fun _=>rfl) (aO _)
def G0 (s:ByteArray) (i:Int) (aT:Int→Option Bool):Option Bool :=
 bif (decide (i<(s.size:Int))) then
 ao (decide (0≤i)) <|
 mH s i.toNat fun b =>
 bif (decide (b<97)) then
 some false
 else
 ao (decide (0≤i)) <|
 mH s i.toNat fun b2 =>
 bif (decide (b2 > 122)) then
 some false
 else
 aT (aj (i+1))
 else
 bif (decide ((s.size:Int) ≥ 1)) then
 some (decide ((s.size:Int)≤8))
 else
 some false
def JB (it:It Bool) (s:ByteArray):Option Bool :=
 it _ (fun (v_0:(Int×Unit)×(Unit)) kn=>G0 s v_0.1.1 (fun y0=>kn ((y0,()),(())))) ((0,()),(()))
def f117 (s:ByteArray):Option Bool:=bT (fun (a:aE [.str])=>JB aB a.1) (s,())
theorem afD (s:ByteArray):f117 s=JB aB s:=bK
def aow:ak ae.toSeat:=cy 117 [.str] [.bool] (en 28 [] [] [(2,⟨⟨[(3,.v (.int .i64))],[]⟩,[0],[],[]⟩)]) Tryz.func117 (fun it a=>JB it a.1) (by kernel_rfl) (by kernel_rfl) (fun _=>rfl) (aO _)
def Xq (d:Driver) (i:Int) (aT:Int→Option Int):Option Int :=
 bif (decide (i<(d.bO.length:Int))) then
 ao (decide (0≤i)&&decide (i<(d.bO.length:Int))) <|
 (f118 ((d.bO.getD i.toNat cS).bu)).bind fun r3 =>
 bif (r3 != 0) then
 some r3
 else
 (f118 ((d.bO.getD i.toNat cS).To)).bind fun r4 =>
 bif (r4 != 0) then
 some r4
 else
 bif (decide ((d.bO.getD i.toNat cS).bu.Hi > (d.bO.getD i.toNat cS).To.Lo)) then
 some 11
 else
 bif (decide (i > 0)) then
 ao (decide (0≤(aj (i - 1)))&&decide ((aj (i - 1))<(d.bO.length:Int))) <|
 bif (decide ((d.bO.getD i.toNat cS).bu.Lo<(d.bO.getD (aj (i - 1)).toNat cS).To.Hi)) then
 some 12
 else
 aT (aj (i+1))
 else
 aT (aj (i+1))
 else
 some 0
def T4 (it:It Int) (d:Driver):Option Int :=
 (f117 d.Name).bind fun r =>
 bif (!r) then
 some 3
 else
 (f95 d.lu 0 255).bind fun r2 =>
 bif r2 then
 some 2
 else
 bif (decide ((d.bO.length:Int) > 20)) then
 some 8
 else
 it _ (fun (v_0:(Unit×Int×Unit)×(Unit)) kn=>Xq d v_0.1.2.1 (fun y0=>kn (((),y0,()),(())))) (((),0,()),(()))
def f96 (d:Driver):Option Int:=bT (fun (a:aE [.Driver])=>T4 aB a.1) (d,())
theorem aji (d:Driver):f96 d=T4 aB d:=bK
def as3:ak ae.toSeat:=cy 96 [.Driver] [.int .i64] (en 65 [aow,HB,aox] [] [(8,⟨⟨[(1,.bx 1 0),(3,.v (.int .i64))],[]⟩,[],[1],[]⟩)]) Tryz.func96 (fun it a=>T4 it a.1) (by kernel_rfl) (by kernel_rfl) (fun _=>rfl) (aO _)
def G1 (i:Int) (l:List Driver) (aT:Int→Option Int) (k:Int) (cW:Int→Option Int):Option Int :=
 bif (decide (k<i)) then
 ao (decide (0≤k)&&decide (k<(l.length:Int))) <|
 ao (decide (0≤i)&&decide (i<(l.length:Int))) <|
 bif (((l.getD k.toNat cR).Name).toList == ((l.getD i.toNat cR).Name).toList) then
 some 9
 else
 cW (aj (k+1))
 else
 aT (aj (i+1))
def W5 (it:It Int) (l:List Driver) (i:Int) (aT:Int→Option Int):Option Int :=
 bif (decide (i<(l.length:Int))) then
 ao (decide (0≤i)&&decide (i<(l.length:Int))) <|
 (f96 (l.getD i.toNat cR)).bind fun r =>
 bif (r != 0) then
 some r
 else
 ao (decide (0≤i)&&decide (i<(l.length:Int))) <|
 bif (decide ((((l.getD i.toNat cR).bO).length:Int) > 0)) then
 some 3
 else
 it _ (fun (v_0:(Int×Unit)×(Unit)) kn=>G1 i l aT v_0.1.1 (fun y0=>kn ((y0,()),(())))) ((0,()),(()))
 else
 some 0
def Tr (it:It Int) (l:List Driver):Option Int :=
 bif ((l.length:Int) == 0) then
 some 6
 else
 bif (decide ((l.length:Int) > 4)) then
 some 8
 else
 it _ (fun (v_0:(Int×Unit)×(Unit)) kn=>W5 it l v_0.1.1 (fun y0=>kn ((y0,()),(())))) ((0,()),(()))
def f48 (l:List Driver):Option Int:=bT (fun (a:aE [.sl .Driver])=>Tr aB a.1) (l,())
theorem aiC (l:List Driver):f48 l=Tr aB l:=bK
def asJ:ak ae.toSeat:=cy 48 [.sl .Driver] [.int .i64] (en 49 [as3] [] [(6,⟨⟨[(3,.v (.int .i64))],[]⟩,[0],[],[]⟩),(14,⟨⟨[(5,.v (.int .i64))],[]⟩,[3],[],[]⟩)]) Tryz.func48 (fun it a=>Tr it a.1) (by kernel_rfl) (by kernel_rfl) (fun _=>rfl) (aO _)
def T5 (it:It Int) (s:bb):Option Int :=
 (f95 s.Zero 0 1000).bind fun r =>
 bif r then
 some 2
 else
 (f95 s.Part 0 100000).bind fun r2 =>
 bif r2 then
 some 2
 else
 some 0
def f97 (s:bb):Option Int:=bT (fun (a:aE [.bb])=>T5 aB a.1) (s,())
theorem ajj (s:bb):f97 s=T5 aB s:=bK
def alY:ak ae.toSeat:=cy 97 [.bb] [.int .i64] (en 11 [HB] [] []) Tryz.func97 (fun it a=>T5 it a.1) (by kernel_rfl) (by kernel_rfl) (fun _=>rfl) (aO _)
def ac6 (it:It Bool) (s:bb) (weight:Int) (dG:Int):Option Bool :=
 bif (decide ((aj (dG * 1000000)) ≥ (aj ((aj (weight * (aj (1000000 - s.Part)))) - (aj (s.Zero * 1000000)))))) then
 some (decide ((aj (dG * 1000000))≤(aj ((aj (weight * (aj (1000000+s.Part))))+(aj (s.Zero * 1000000))))))
 else
 some false
def f138 (s:bb) (weight:Int) (dG:Int):Option Bool:=bT (fun (a:aE [.bb,.int .i64,.int .i64])=>ac6 aB a.1 a.2.1 a.2.2.1) (s,weight,dG,())
def aoF:ak ae.toSeat:=cy 138 [.bb,.int .i64,.int .i64] [.bool] (en 37 [] [] []) Tryz.func138 (fun it a=>ac6 it a.1 a.2.1 a.2.2.1) (by kernel_rfl) (by kernel_rfl) (fun _=>rfl) (aO _)
def afI (s:bb) (dG:Int) (mq:Int) (lr:Int) (cW:Int→Int→Option Span):Option Span :=
 (f138 s (aj (lr+1)) dG).bind fun r2 =>
 bif r2 then
 cW mq (aj (lr+1))
 else
 some (⟨mq,lr⟩:Span)
def SS (s:bb) (dG:Int) (aeG:Int) (VO:Int) (jO:Int→Int→Option Span):Option Span :=
 (f138 s (aj (VO+1)) dG).bind fun r3 =>
 bif r3 then
 jO aeG (aj (VO+1))
 else
 some (⟨aeG,VO⟩:Span)
def afH (it:It Span) (s:bb) (dG:Int) (oW:Int) (rj:Int) (aT:Int→Int→Option Span):Option Span :=
 bif (decide (oW > 0)) then
 (f138 s (aj (oW - 1)) dG).bind fun r =>
 bif r then
 aT (aj (oW - 1)) rj
 else
 it _ (fun (v_0:(Unit×Unit×Unit×Unit)×((Int×Int×Unit)×Unit)) kn=>afI s dG v_0.2.1.1 v_0.2.1.2.1 (fun y0 y1=>kn (((),(),(),()),((y0,y1,()),())))) (((),(),(),()),((oW,rj,()),()))
 else
 it _ (fun (v_0:(Unit×Unit×Unit×Unit)×((Int×Int×Unit)×Unit)) kn=>SS s dG v_0.2.1.1 v_0.2.1.2.1 (fun y0 y1=>kn (((),(),(),()),((y0,y1,()),())))) (((),(),(),()),((oW,rj,()),()))
def ac5 (it:It Span) (s:bb) (dG:Int):Option Span :=
 it _ (fun (v_0:(Unit×Unit×Unit×Unit)×((Int×Int×Unit)×Unit)) kn=>afH it s dG v_0.2.1.1 v_0.2.1.2.1 (fun y0 y1=>kn (((),(),(),()),((y0,y1,()),())))) (((),(),(),()),((dG,dG,()),()))
def f119 (s:bb) (dG:Int):Option Span:=bT (fun (a:aE [.bb,.int .i64])=>ac5 aB a.1 a.2.1) (s,dG,())
def aoy:ak ae.toSeat:=cy 119 [.bb,.int .i64] [.Span] (en 35 [aoF] [] [(2,⟨⟨[(2,.bx 2 0),(4,.bx 4 0),(5,.bx 5 0)],[(5,[.v (.int .i64),.v (.int .i64)])]⟩,[1],[2,4],[]⟩),(4,⟨⟨[(2,.bx 2 0),(4,.bx 4 0),(5,.bx 5 0)],[(5,[.v (.int .i64),.v (.int .i64)])]⟩,[1],[2,4],[]⟩)]) Tryz.func119 (fun it a=>ac5 it a.1 a.2.1) (by kernel_rfl) (by kernel_rfl) (fun _=>rfl) (aO _)
def ajl (it:It (Span×Int)) (s:bb) (dG:Int):Option (Span×Int) :=
 (f97 s).bind fun r =>
 bif (r != 0) then
 some ((⟨0,0⟩:Span),r)
 else
 (f95 dG 0 100000).bind fun r2 =>
 bif r2 then
 some ((⟨0,0⟩:Span),2)
 else
 (f119 s dG).bind fun r3 =>
 some (r3,0)
def f98 (s:bb) (dG:Int):Option (Span×Int):=bT (fun (a:aE [.bb,.int .i64])=>ajl aB a.1 a.2.1) (s,dG,())
def as4:ak ae.toSeat:=cy 98 [.bb,.int .i64] [.Span,.int .i64] (en 19 [alY,HB,aoy] [] []) Tryz.func98 (fun it a=>ajl it a.1 a.2.1) (by kernel_rfl) (by kernel_rfl) (fun _=>rfl) (aO _)
def Qs (dh:List Int) (s:bb) (a:bR) (sure:Bool) (never:Bool) (i:Int) (Ku:Int) (Kt:Int) (dI:Int) (dP:Int) (aT:Bool→Bool→Int→Int→Int→Int→Int→Option (Int×Span×Int)):Option (Int×Span×Int) :=
 bif (decide (i<(dh.length:Int))) then
 ao (decide (0≤i)&&decide (i<(dh.length:Int))) <|
 (f98 s (dh.getD i.toNat 0)).bind fun r4 =>
 bif (r4.2 != 0) then
 some (0,(⟨0,0⟩:Span),r4.2)
 else
 bif sure then
 bif never then
 aT (decide (r4.1.Hi≤a.ju)) true (aj (i+1)) Ku Kt (aj (dI+r4.1.Lo)) (aj (dP+r4.1.Hi))
 else
 aT (decide (r4.1.Hi≤a.ju)) (decide (r4.1.Lo > a.ju)) (aj (i+1)) Ku Kt (aj (dI+r4.1.Lo)) (aj (dP+r4.1.Hi))
 else
 bif never then
 aT false true (aj (i+1)) Ku Kt (aj (dI+r4.1.Lo)) (aj (dP+r4.1.Hi))
 else
 aT false (decide (r4.1.Lo > a.ju)) (aj (i+1)) Ku Kt (aj (dI+r4.1.Lo)) (aj (dP+r4.1.Hi))
 else
 bif sure then
 bif never then
 bif (decide (dP≤a.Total)) then
 some (1,(⟨dI,dP⟩:Span),0)
 else
 some (2,(⟨dI,dP⟩:Span),0)
 else
 bif (decide (dP≤a.Total)) then
 some (1,(⟨dI,dP⟩:Span),0)
 else
 bif (decide (dI > a.Total)) then
 some (2,(⟨dI,dP⟩:Span),0)
 else
 some (3,(⟨dI,dP⟩:Span),0)
 else
 bif never then
 some (2,(⟨dI,dP⟩:Span),0)
 else
 bif (decide (dI > a.Total)) then
 some (2,(⟨dI,dP⟩:Span),0)
 else
 some (3,(⟨dI,dP⟩:Span),0)
def Ts (it:It (Int×Span×Int)) (s:bb) (dh:List Int) (a:bR):Option (Int×Span×Int) :=
 (f97 s).bind fun r =>
 bif (r != 0) then
 some (0,(⟨0,0⟩:Span),r)
 else
 bif (decide ((dh.length:Int) > 12)) then
 some (0,(⟨0,0⟩:Span),8)
 else
 (f95 a.ju 0 1000000).bind fun r2 =>
 bif r2 then
 some (0,(⟨0,0⟩:Span),2)
 else
 (f95 a.Total 0 1000000).bind fun r3 =>
 bif r3 then
 some (0,(⟨0,0⟩:Span),2)
 else
 it _ (fun (v_0:(Unit×Unit×Unit×Unit×Bool×Bool×Int×Unit)×((Int×Int×Unit)×(Int×Int×Unit)×Unit)) kn=>Qs dh s a v_0.1.2.2.2.2.1 v_0.1.2.2.2.2.2.1 v_0.1.2.2.2.2.2.2.1 v_0.2.1.1 v_0.2.1.2.1 v_0.2.2.1.1 v_0.2.2.1.2.1 (fun y0 y1 y2 y3 y4 y5 y6=>kn (((),(),(),(),y0,y1,y2,()),((y3,y4,()),(y5,y6,()),())))) (((),(),(),(),true,false,0,()),((0,0,()),(0,0,()),()))
def f49 (s:bb) (dh:List Int) (a:bR):Option (Int×Span×Int):=bT (fun (a:aE [.bb,.sl (.int .i64),.bR])=>Ts aB a.1 a.2.1 a.2.2.1) (s,dh,a,())
theorem aiE (s:bb) (dh:List Int) (a:bR):f49 s dh a=Ts aB s dh a:=bK
def asK:ak ae.toSeat:=cy 49 [.bb,.sl (.int .i64),.bR] [.int .i64,.Span,.int .i64] (en 104 [alY,HB,as4] [] [(11,⟨⟨[(3,.bx 3 0),(5,.bx 5 0),(7,.bx 7 0),(10,.bx 10 0),(11,.v .bool),(12,.v .bool),(13,.v (.int .i64))],[(7,[.v (.int .i64),.v (.int .i64)]),(10,[.v (.int .i64),.v (.int .i64)])]⟩,[1],[3,5],[]⟩)]) Tryz.func49 (fun it a=>Ts it a.1 a.2.1 a.2.2.1) (by kernel_rfl) (by kernel_rfl) (fun _=>rfl) (aO _)
def SR (it:It Int) (r:Region):Option Int :=
 (f16 r.aI).bind fun r2 =>
 bif (r2 != 0) then
 some r2
 else
 (f42 r.aN).bind fun r3 =>
 bif (r3 != 0) then
 some r3
 else
 (f44 r ([(⟨1,0,r.b9,[]⟩:aS)]:List aS)).bind fun r4 =>
 (f43 r4).bind fun r5 =>
 bif (r5 != 0) then
 some r5
 else
 (f45 r.aH).bind fun r6 =>
 bif (r6 != 0) then
 some r6
 else
 (f46 r.aw).bind fun r7 =>
 bif (r7 != 0) then
 some r7
 else
 (f47 r.br).bind fun r8 =>
 bif (r8 != 0) then
 some r8
 else
 (f48 r.bD).bind fun r9 =>
 bif (r9 != 0) then
 some r9
 else
 (f49 r.bb [] r.bR).bind fun dN =>
 some dN.2.2
def f11 (r:Region):Option Int:=bT (fun (a:aE [.Region])=>SR aB a.1) (r,())
theorem aia (r:Region):f11 r=SR aB r:=bK
def asv:ak ae.toSeat:=cy 11 [.Region] [.int .i64] (en 69 [alP,asD,asF,asE,asG,asH,asI,asJ,asK] [29] []) Tryz.func11 (fun it a=>SR it a.1) (by kernel_rfl) (by kernel_rfl) (fun _=>rfl) (aO _)
def LS (x:aw) (i:Int) (aT:Int→Option Bool):Option Bool :=
 bif (decide (i<(x.cT.length:Int))) then
 ao (decide (0≤i)&&decide (i<(x.cT.length:Int))) <|
 bif (decide ((((x.cT.getD i.toNat ey).nX).length:Int) > 50)) then
 some true
 else
 aT (aj (i+1))
 else
 some false
def WS (x:aw) (i2:Int) (cW:Int→Option Bool):Option Bool :=
 bif (decide (i2<(x.cT.length:Int))) then
 ao (decide (0≤i2)&&decide (i2<(x.cT.length:Int))) <|
 bif (decide ((((x.cT.getD i2.toNat ey).nX).length:Int) > 50)) then
 some true
 else
 cW (aj (i2+1))
 else
 some false
def SU (it:It Bool) (x:aw):Option Bool :=
 bif (decide (x.eX > 6)) then
 bif (decide (x.eX≤40)) then
 some true
 else
 bif (decide ((x.eF.length:Int) > 20)) then
 some true
 else
 bif (decide ((x.cT.length:Int) > 5)) then
 some true
 else
 bif (decide ((x.jb.length:Int) > 50)) then
 some true
 else
 bif (decide ((x.eR.length:Int) > 25)) then
 some true
 else
 it _ (fun (v_0:(Unit×Int×Unit)×(Unit)) kn=>LS x v_0.1.2.1 (fun y0=>kn (((),y0,()),(())))) (((),0,()),(()))
 else
 bif (decide ((x.eF.length:Int) > 20)) then
 some true
 else
 bif (decide ((x.cT.length:Int) > 5)) then
 some true
 else
 bif (decide ((x.jb.length:Int) > 50)) then
 some true
 else
 bif (decide ((x.eR.length:Int) > 25)) then
 some true
 else
 it _ (fun (v_0:(Unit×Int×Unit)×(Unit)) kn=>WS x v_0.1.2.1 (fun y0=>kn (((),y0,()),(())))) (((),0,()),(()))
def f14 (x:aw):Option Bool:=bT (fun (a:aE [.aw])=>SU aB a.1) (x,())
theorem aib (x:aw):f14 x=SU aB x:=bK
def asy:ak ae.toSeat:=cy 14 [.aw] [.bool] (en 51 [] [] [(4,⟨⟨[(1,.bx 1 0),(3,.v (.int .i64))],[]⟩,[],[1],[]⟩)]) Tryz.func14 (fun it a=>SU it a.1) (by kernel_rfl) (by kernel_rfl) (fun _=>rfl) (aO _)
def ana (r:Region) (i2:Int) (cW:Int→Option Bool):Option Bool :=
 bif (decide (i2<(r.bD.length:Int))) then
 ao (decide (0≤i2)&&decide (i2<(r.bD.length:Int))) <|
 bif (decide ((((r.bD.getD i2.toNat cR).Name).size:Int) > 40)) then
 some true
 else
 ao (decide (0≤i2)&&decide (i2<(r.bD.length:Int))) <|
 bif (decide ((((r.bD.getD i2.toNat cR).bO).length:Int) > 5)) then
 some true
 else
 cW (aj (i2+1))
 else
 (f15 r.aI).bind fun r3 =>
 (f16 r.aI).bind fun r4 =>
 bif (r4 == 0) then
 bif (decide (r3 > 12)) then
 some true
 else
 bif (decide (r.b9.Lo > 0)) then
 some (decide ((aj (100 * r3)) > (aj (60 * r.b9.Lo))))
 else
 some false
 else
 some false
def am9 (it:It Bool) (r:Region) (i:Int) (aT:Int→Option Bool):Option Bool :=
 bif (decide (i<(r.aH.ah.length:Int))) then
 ao (decide (0≤i)&&decide (i<(r.aH.ah.length:Int))) <|
 bif (decide ((((r.aH.ah.getD i.toNat ay).Name).size:Int) > 40)) then
 some true
 else
 aT (aj (i+1))
 else
 it _ (fun (v_0:(Unit×Int×Unit)×(Unit)) kn=>ana r v_0.1.2.1 (fun y0=>kn (((),y0,()),(())))) (((),0,()),(()))
def f5' (it:It Bool) (r:Region):Option Bool :=
 bif (decide ((r.aI.Reaches.length:Int) > 25)) then
 some true
 else
 bif (decide ((r.aN.fS.length:Int) > 25)) then
 some true
 else
 bif (decide ((r.aN.iv.length:Int) > 25)) then
 some true
 else
 bif (decide ((r.aH.ah.length:Int) > 10)) then
 some true
 else
 bif (decide ((r.aH.aZ.length:Int) > 10)) then
 some true
 else
 bif (decide ((r.bD.length:Int) > 6)) then
 some true
 else
 (f14 r.aw).bind fun r2 =>
 bif r2 then
 some true
 else
 it _ (fun (v_0:(Unit×Int×Unit)×(Unit)) kn=>am9 it r v_0.1.2.1 (fun y0=>kn (((),y0,()),(())))) (((),0,()),(()))
def f5 (r:Region):Option Bool:=bT (fun (a:aE [.Region])=>f5' aB a.1) (r,())
theorem anb (r:Region):f5 r=f5' aB r:=bK
def sp5:ak ae.toSeat:=cy 5 [.Region] [.bool] (en 118 [asy,acb,alP] [] [(4,⟨⟨[(1,.bx 1 0),(3,.v (.int .i64))],[]⟩,[],[1],[]⟩),(9,⟨⟨[(1,.bx 1 0),(4,.v (.int .i64))],[]⟩,[],[1],[]⟩)]) Tryz.func5 (fun it a=>f5' it a.1) (by kernel_rfl) (by kernel_rfl) (fun _=>rfl) (aO _)
def SW (it:It Int) (a0:Region):Option Int :=
 (f26 a0.aI).bind fun r =>
 some r
def f25 (a0:Region):Option Int:=bT (fun (a:aE [.ptr .Region])=>SW aB a.1) (a0,())
theorem aie (a0:Region):f25 a0=SW aB a0:=bK
def acd:ak ae.toSeat:=cy 25 [.ptr .Region] [.int .i64] (en 5 [Vz] [] []) Tryz.func25 (fun it a=>SW it a.1) (by kernel_rfl) (by kernel_rfl) (fun _=>rfl) (aO _)
def SY (it:It Int) (a0:Region):Option Int :=
 (f28 a0.aN).bind fun r =>
 some r
def f27 (a0:Region):Option Int:=bT (fun (a:aE [.ptr .Region])=>SY aB a.1) (a0,())
theorem aih (a0:Region):f27 a0=SY aB a0:=bK
def ace:ak ae.toSeat:=cy 27 [.ptr .Region] [.int .i64] (en 5 [OA] [] []) Tryz.func27 (fun it a=>SY it a.1) (by kernel_rfl) (by kernel_rfl) (fun _=>rfl) (aO _)
def S5 (it:It Int) (a0:Region):Option Int :=
 (f31 a0 ([(⟨1,0,a0.b9,[]⟩:aS)]:List aS)).bind fun r =>
 (f30 r).bind fun r2 =>
 some r2
def f29 (a0:Region):Option Int:=bT (fun (a:aE [.ptr .Region])=>S5 aB a.1) (a0,())
theorem aij (a0:Region):f29 a0=S5 aB a0:=bK
def acf:ak ae.toSeat:=cy 29 [.ptr .Region] [.int .i64] (en 9 [OC,OB] [6] []) Tryz.func29 (fun it a=>S5 it a.1) (by kernel_rfl) (by kernel_rfl) (fun _=>rfl) (aO _)
def S8 (it:It Int) (a0:Region):Option Int :=
 (f33 a0.aH).bind fun r =>
 some r
def f32 (a0:Region):Option Int:=bT (fun (a:aE [.ptr .Region])=>S8 aB a.1) (a0,())
theorem aim (a0:Region):f32 a0=S8 aB a0:=bK
def acg:ak ae.toSeat:=cy 32 [.ptr .Region] [.int .i64] (en 5 [ach] [] []) Tryz.func32 (fun it a=>S8 it a.1) (by kernel_rfl) (by kernel_rfl) (fun _=>rfl) (aO _)
def Tc (it:It Int) (a0:Region):Option Int :=
 (f35 a0.aw).bind fun r =>
 some r
def f34 (a0:Region):Option Int:=bT (fun (a:aE [.ptr .Region])=>Tc aB a.1) (a0,())
theorem aio (a0:Region):f34 a0=Tc aB a0:=bK
def aci:ak ae.toSeat:=cy 34 [.ptr .Region] [.int .i64] (en 5 [acj] [] []) Tryz.func34 (fun it a=>Tc it a.1) (by kernel_rfl) (by kernel_rfl) (fun _=>rfl) (aO _)
def Te (it:It Int) (a0:Region):Option Int :=
 (f37 a0.br).bind fun r =>
 some r
def f36 (a0:Region):Option Int:=bT (fun (a:aE [.ptr .Region])=>Te aB a.1) (a0,())
theorem aiq (a0:Region):f36 a0=Te aB a0:=bK
def ack:ak ae.toSeat:=cy 36 [.ptr .Region] [.int .i64] (en 5 [VB] [] []) Tryz.func36 (fun it a=>Te it a.1) (by kernel_rfl) (by kernel_rfl) (fun _=>rfl) (aO _)
def Tg (it:It Int) (a0:Region):Option Int :=
 (f39 a0.bD).bind fun r =>
 some r
def f38 (a0:Region):Option Int:=bT (fun (a:aE [.ptr .Region])=>Tg aB a.1) (a0,())
theorem ais (a0:Region):f38 a0=Tg aB a0:=bK
def acm:ak ae.toSeat:=cy 38 [.ptr .Region] [.int .i64] (en 5 [acn] [] []) Tryz.func38 (fun it a=>Tg it a.1) (by kernel_rfl) (by kernel_rfl) (fun _=>rfl) (aO _)
def Ti (it:It Int) (a0:Region):Option Int :=
 (f41 a0.bb [] a0.bR).bind fun r =>
 some r.2.2
def f40 (a0:Region):Option Int:=bT (fun (a:aE [.ptr .Region])=>Ti aB a.1) (a0,())
theorem aiu (a0:Region):f40 a0=Ti aB a0:=bK
def aco:ak ae.toSeat:=cy 40 [.ptr .Region] [.int .i64] (en 15 [VC] [] []) Tryz.func40 (fun it a=>Ti it a.1) (by kernel_rfl) (by kernel_rfl) (fun _=>rfl) (aO _)
def SQ (it:It Int) (r:Region):Option Int :=
 (f25 r).bind fun r2 =>
 bif (r2 != 0) then
 some r2
 else
 (f27 r).bind fun r3 =>
 bif (r3 != 0) then
 some r3
 else
 (f29 r).bind fun r4 =>
 bif (r4 != 0) then
 some r4
 else
 (f32 r).bind fun r5 =>
 bif (r5 != 0) then
 some r5
 else
 (f34 r).bind fun r6 =>
 bif (r6 != 0) then
 some r6
 else
 (f36 r).bind fun r7 =>
 bif (r7 != 0) then
 some r7
 else
 (f38 r).bind fun r8 =>
 bif (r8 != 0) then
 some r8
 else
 (f40 r).bind fun r9 =>
 bif (r9 != 0) then
 some r9
 else
 some 0
def f10:Region→Option Int:=bT (fun r=>SQ aB r)
theorem WQ (r:Region):f10 r=SQ aB r:=by unfold f10;rw[aO]
def Px:bJ ae:=⟨⟨26,[acd,ace,acf,acg,aci,ack,acm,aco],[],[],[],[],[],[],[],[],[],[],[],[14],[],true⟩,[(1000001,⟨⟨[],[]⟩,[1],[],[]⟩)]⟩
theorem WC (_it:It Int) (r:Region):EM (ts:=[.int .i64]) aB Px (dB Tryz.f10) Tryz.f10.results.toList (ck [.Region] (r,()))=SQ aB r:=by kernel_rfl
def alN:ak ae.toSeat:=lF ae.toSeat 10 [.Region] [.int .i64] true (fun a=>f10 a.1) (fun a x hx h h'=>ry (Z:=ae) (bf:=[.Region]) (ts:=[.int .i64]) (E:=Px) (fn:=Tryz.f10) (c:=dB Tryz.f10) Tryz.func10 (by kernel_rfl) (by kernel_rfl) (by kernel_rfl) (by kernel_rfl) rfl ((WC aB a.1).trans ((WQ a.1).symm.trans hx)) h h') (fun _ x=>rfl)
end
end Go.Proofs.fu
namespace Go.Ab
open Go Go.RowKit
set_option linter.all false
def Ok {α:Type} (P:α→Prop) (x:Option α):Prop:=∃ a,x=some a∧P a
section
variable {α β:Type}{P:α→Prop}{Q:β→Prop}
theorem Ok.some {a:α} (h:P a):Ok P (some a):=⟨a,rfl,h⟩
theorem Ok.bind {x:Option α}{f:α→Option β} (hx:Ok P x) (hf:∀ a,P a→Ok Q (f a)):Ok Q (x.bind f):=by
 obtain ⟨a,rfl,ha⟩:=hx
 exact hf a ha
theorem Ok.mono {P':α→Prop}{x:Option α} (hx:Ok P x) (h:∀ a,P a→P' a):Ok P' x:=by
 obtain ⟨a,rfl,ha⟩:=hx
 exact⟨a,rfl,h a ha⟩
theorem Ok.ao {b:Bool}{x:Option α} (hb:b=true) (hx:Ok P x):Ok P (ao b x):=by subst hb;exact hx
theorem Ok.ite {c:Bool}{x y:Option α} (hx:c=true→Ok P x) (hy:c=false→Ok P y):Ok P (bif c then x else y):=by
 cases c with
 |true=>exact hx rfl
 |false=>exact hy rfl
theorem Ok.rounds {γ:Type}{F:γ→(γ→Option α)→Option α}{v0:γ} (inv:γ→Prop) (μ:γ→Nat) (Fo:μ v0<iM) (h0:inv v0)
  (step:∀ v kn,inv v→(∀ v',inv v'→μ v'<μ v→Ok P (kn v'))→Ok P (F v kn)):Ok P (aB γ F v0):=by
 have key:∀ n v,inv v→μ v<n→Ok P (iter F n v):=by
  intro n
  induction n with
  |zero=>intro v _ h;omega
  |succ n ih =>
   intro v hv hn
   exact step v (iter F n) hv fun v' kD cz=>ih v' kD (by omega)
 exact key iM v0 h0 Fo
end
theorem b7 {n:Int} (h1:-9223372036854775808≤n) (h2:n≤9223372036854775807):aj n=n:=by
 unfold aj IntKind.wrap
 simp[IntKind.bits,IntKind.signed,Int.bmod_def]
 omega
end Go.Ab
