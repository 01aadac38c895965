/- Walks by computing: what each function of the program that the laws reach gives for what it gets, as plain Lean, and that it is so; without a condition but those that stand in each theorem. -/
import Derived.Test.YtafnhieaeejlcaaDoorW1
import Derived.Test.YtafnhieaeejlcaaDoorW2
import Derived.Test.YtafnhieaeejlcaaDoorW3
import Derived.Test.YtafnhieaeejlcaaDoorW4
import Derived.Test.YtafnhieaeejlcaaDoorW5
import Derived.Test.YtafnhieaeejlcaaDoorW6
import Derived.Test.YtafnhieaeejlcaaDoorW7
import Derived.Test.YtafnhieaeejlcaaDoorW8
import Derived.Test.YtafnhieaeejlcaaDoorW9
import Derived.Test.YtafnhieaeejlcaaDoorW10
import Derived.Test.YtafnhieaeejlcaaDoorW11
import Derived.Test.YtafnhieaeejlcaaDoorW12
import Derived.Test.YtafnhieaeejlcaaDoorW13
import Derived.Test.YtafnhieaeejlcaaDoorW14
import Derived.Test.YtafnhieaeejlcaaDoorW15
set_option linter.all false
namespace Go.Proofs.Plain04
open Go Go.Ab
open Go.Proofs.YtafnhieaeejlcaaDoor (ao)
set_option linter.all false
set_option maxRecDepth 100000
noncomputable section
def IL(below:Int)(l2:List Int)(i:Int)(kn_:(List Int)→Int→Option (((List Int)×Unit)×Bool)):Option (((List Int)×Unit)×Bool):=
 bif (decide (i≥0))then
 aP (decide (0≤i)&&decide (i<(l2.length:Int)))<|
 aP (decide (i.toNat<l2.length))<|
 aP (decide (0≤i)&&decide (i<(l2.length:Int)))<|
 aP (decide (i.toNat<l2.length))<|
 aP (decide (0≤i)&&decide (i<((l2.set i.toNat (bG ((l2.getD i.toNat 0)+1))).length:Int)))<|
 aP (decide (i.toNat<(l2.set i.toNat (bG ((l2.getD i.toNat 0)+1))).length))<|
 bif (decide (((l2.set i.toNat (bG ((l2.getD i.toNat 0)+1))).getD i.toNat 0)<below))then
 some (((l2.set i.toNat (bG ((l2.getD i.toNat 0)+1))),()),true)
 else
 aP (decide (0≤i)&&decide (i<((l2.set i.toNat (bG ((l2.getD i.toNat 0)+1))).length:Int)))<|
 aP (decide (i.toNat<(l2.set i.toNat (bG ((l2.getD i.toNat 0)+1))).length))<|
 kn_ ((l2.set i.toNat (bG ((l2.getD i.toNat 0)+1))).set i.toNat 0) (bG (i-1))
 else
 some ((l2,()),false)
def ED(it:It (((List Int)×Unit)×Bool))(l:List Int)(below:Int):Option (((List Int)×Unit)×Bool):=
 it _ (fun(v_0:((List Int)×Int×Unit)×(Unit)) kn=>IL below v_0.1.1 v_0.1.2.1 (fun y0 y1=>kn ((y0,y1,()),(())))) ((l,(bG ((l.length:Int)-1)),()),(()))
def Qq:du ao:=⟨⟨28,[],[],[],[],[],[],[],[],[],[],[],(N7 0 [.a 3 (.int .i64)]),false⟩,[(2,⟨⟨[(0, .os 900000000 3 (.int .i64)),(5, .v (.int .i64))],[]⟩,[1],[],[]⟩)]⟩
theorem QP(it:It (((List Int)×Unit)×Bool))(l:List Int)(below:Int):DR [.a 3 (.int .i64)] (ts:=[.bool]) it (Qq) (aU Tryd.f104) Tryd.f104.results.toList (l,()) (mw [.o 0, .d (.int .i64)] (below,()))=ED it l below:=by kernel_rfl
def count:((List Int)×Unit)→(Int×Unit)→Option (((List Int)×Unit)×Bool):=ij (fun x a=>ED cH x.1 a.1)
theorem count_eq:count=fun x a=>ED cH x.1 a.1:=by unfold count;rw[bT]
def PY:kQ ao.toSeat:=Fi ao.toSeat 104 [.a 3 (.int .i64)] [.o 0, .d (.int .i64)] [.bool] [0] [] count (fun x a y z hx=>rR (Z:=ao) (bks:=[.a 3 (.int .i64)]) (aks:=[.o 0, .d (.int .i64)]) (ts:=[.bool]) (E:=Qq) (fn:=Tryd.f104) (c:=aU Tryd.f104) Tryd.func104 (by kernel_rfl) (by kernel_rfl) (by kernel_rfl) (by kernel_rfl) rfl rfl (by kernel_rfl) (by kernel_rfl) ((QP cH x.1 a.1).trans ((congrFun (congrFun count_eq x) a).symm.trans hx)))
def mI(it:It (List Int))(s:List Int):Option (List Int):=
 ri s.isEmpty
 (some ([]:List Int))
 (aP (fV (([]:List Int).length+s.length) 8)<|
 some (([]:List Int)++s))
def jZ:(List Int)→Option (List Int):=ij (fun s=>mI cH s)
theorem qO(s:List Int):jZ s=mI cH s:=by unfold jZ;rw[bT]
def PL:du ao:=⟨⟨8,[],[],[],[],[],[],[],[],[],[],[],[],true⟩,[]⟩
theorem Q0(it:It (List Int))(s:List Int):AB (.sl (.int .i64)) 0 3 (.int .i64) it PL (aU Tryd.f103) Tryd.f103.results.toList (bY [.sl (.int .i64)] (s,()))=mI it s:=by kernel_rfl
def O4:jL ao.toSeat:=An ao.toSeat 103 [.sl (.int .i64)] (.sl (.int .i64)) 0 3 (.int .i64) (fun a=>jZ a.1) (fun a x hx l d hd h=>m5 (Z:=ao) (ats:=[.sl (.int .i64)]) (E:=PL) (fn:=Tryd.f103) (c:=aU Tryd.f103) Tryd.func103 (by kernel_rfl) (by kernel_rfl) (by kernel_rfl) (by kernel_rfl) rfl ((Q0 cH a.1).trans ((qO a.1).symm.trans hx)) hd h)
def jJ(it:It (List Truck))(s:List Truck):Option (List Truck):=
 ri s.isEmpty
 (some ([]:List Truck))
 (aP (fV (([]:List Truck).length+s.length) 56)<|
 some (([]:List Truck)++s))
def jx:(List Truck)→Option (List Truck):=ij (fun s=>jJ cH s)
theorem ny(s:List Truck):jx s=jJ cH s:=by unfold jx;rw[bT]
def P3:du ao:=⟨⟨8,[],[],[],[],[],[],[],[],[],[],[],[],true⟩,[]⟩
theorem Rp(it:It (List Truck))(s:List Truck):AB (.sl .Truck) 0 50 .Truck it P3 (aU Tryd.f120) Tryd.f120.results.toList (bY [.sl .Truck] (s,()))=jJ it s:=by kernel_rfl
def Pe:jL ao.toSeat:=An ao.toSeat 120 [.sl .Truck] (.sl .Truck) 0 50 .Truck (fun a=>jx a.1) (fun a x hx l d hd h=>m5 (Z:=ao) (ats:=[.sl .Truck]) (E:=P3) (fn:=Tryd.f120) (c:=aU Tryd.f120) Tryd.func120 (by kernel_rfl) (by kernel_rfl) (by kernel_rfl) (by kernel_rfl) rfl ((Rp cH a.1).trans ((ny a.1).symm.trans hx)) hd h)
def uE(s:List Int)(x8:Int)(kn_:Int→Option Int):Option Int:=
 bif (decide (x8<(s.length:Int)))then
 aP (decide (0≤x8)&&decide (x8<(s.length:Int)))<|
 (kK (s.getD x8.toNat 0)).bind fun r=>
 bif r then
 some x8
 else
 kn_ (bG (x8+1))
 else
 some (-1)
def lj(it:It Int)(s:List Int)(f:Unit):Option Int:=
 it _ (fun(v_0:(Int×Unit)×(Unit)) kn=>uE s v_0.1.1 (fun y0=>kn ((y0,()),(())))) ((0,()),(()))
def jT:(List Int)→Unit→Option Int:=ij (fun s f=>lj cH s f)
theorem nf(s:List Int)(f:Unit):jT s f=lj cH s f:=by unfold jT;rw[bT]
def Qo:du ao:=⟨⟨19,[P1],[],[],[],[],[],[],[],[],[],[],[],true⟩,[(2,⟨⟨[(8, .v (.int .i64))],[]⟩,[0,1,7],[],[]⟩)]⟩
theorem RR(it:It Int)(s:List Int)(f:Unit):fp (ts:=[.int .i64]) it Qo (aU Tryd.f119) Tryd.f119.results.toList (bY [.sl (.int .i64), .clo0 101] (s,f,()))=lj it s f:=by kernel_rfl
def Qd:cv ao.toSeat:=df ao.toSeat 119 [.sl (.int .i64), .clo0 101] [.int .i64] true (fun a=>jT a.1 a.2.1) (fun a x hx h h' =>bF (Z:=ao) (ats:=[.sl (.int .i64), .clo0 101]) (ts:=[.int .i64]) (E:=Qo) (fn:=Tryd.f119) (c:=aU Tryd.f119) Tryd.func119 (by kernel_rfl) (by kernel_rfl) (by kernel_rfl) (by kernel_rfl) rfl ((RR cH a.1 a.2.1).trans ((nf a.1 a.2.1).symm.trans hx)) h h') (fun _ x=>rfl)
def iZ(it:It Bool)(s:List Int)(f:Unit):Option Bool:=
 (jT s ()).bind fun r=>
 some (decide (r≥0))
def fE:(List Int)→Unit→Option Bool:=ij (fun s f=>iZ cH s f)
theorem kJ(s:List Int)(f:Unit):fE s f=iZ cH s f:=by unfold fE;rw[bT]
def Pw:du ao:=⟨⟨9,[Qd],[],[],[],[],[],[],[],[],[],[],[],true⟩,[]⟩
theorem Rl(it:It Bool)(s:List Int)(f:Unit):fp (ts:=[.bool]) it Pw (aU Tryd.f100) Tryd.f100.results.toList (bY [.sl (.int .i64), .clo0 101] (s,f,()))=iZ it s f:=by kernel_rfl
def P9:cv ao.toSeat:=df ao.toSeat 100 [.sl (.int .i64), .clo0 101] [.bool] true (fun a=>fE a.1 a.2.1) (fun a x hx h h' =>bF (Z:=ao) (ats:=[.sl (.int .i64), .clo0 101]) (ts:=[.bool]) (E:=Pw) (fn:=Tryd.f100) (c:=aU Tryd.f100) Tryd.func100 (by kernel_rfl) (by kernel_rfl) (by kernel_rfl) (by kernel_rfl) rfl ((Rl cH a.1 a.2.1).trans ((kJ a.1 a.2.1).symm.trans hx)) h h') (fun _ x=>rfl)
def C4(list:List Int)(starts:List Int)(x15:Int)(c_Length:Int)(c_Gap:Int)(c_Fails:Int)(c_Trucks:List Truck)(kn_:Int→Int→Int→Int→(List Truck)→Option Convoy):Option Convoy:=
 bif (decide (x15<(list.length:Int)))then
 aP (decide (0≤x15)&&decide (x15<(list.length:Int)))<|
 aP (decide (0≤(list.getD x15.toNat 0))&&decide ((list.getD x15.toNat 0)<(starts.length:Int)))<|
 aP (decide (0≤x15)&&decide (x15<(c_Trucks.length:Int)))<|
 aP (decide (x15.toNat<c_Trucks.length))<|
 kn_ (bG (x15+1)) c_Length c_Gap c_Fails (c_Trucks.set x15.toNat (⟨(c_Trucks.getD x15.toNat aK).Way,(starts.getD (list.getD x15.toNat 0).toNat 0),(c_Trucks.getD x15.toNat aK).Pace,(c_Trucks.getD x15.toNat aK).Holds⟩:Truck))
 else
 some (⟨c_Length,c_Gap,c_Fails,c_Trucks⟩:Convoy)
def tg(it:It Convoy)(c:Convoy)(starts:List Int)(list:List Int):Option Convoy:=
 (jx c.Trucks).bind fun r=>
 it _ (fun(v_0:(Unit×Unit×Int×Unit)×((Int×Int×Int×(List Truck)×Unit)×Unit)) kn=>C4 list starts v_0.1.2.2.1 v_0.2.1.1 v_0.2.1.2.1 v_0.2.1.2.2.1 v_0.2.1.2.2.2.1 (fun y0 y1 y2 y3 y4=>kn (((),(),y0,()),((y1,y2,y3,y4,()),())))) (((),(),0,()),((c.Length,c.Gap,c.Fails,r,()),()))
def fQ:Convoy→(List Int)→(List Int)→Option Convoy:=ij (fun c starts list=>tg cH c starts list)
theorem tU(c:Convoy)(starts:List Int)(list:List Int):fQ c starts list=tg cH c starts list:=by unfold fQ;rw[bT]
def Pp:du ao:=⟨⟨31,[],[],[],[Pe],[],[],[],[],[],[],[],[],true⟩,[(3,⟨⟨[(3, .bx 3 0),(6, .bx 6 0),(15, .v (.int .i64))],[(3,[.v (.int .i64), .v (.int .i64), .v (.int .i64), .os 11 50 .Truck])]⟩,[1,13,14],[6],[]⟩)]⟩
theorem Q4(it:It Convoy)(c:Convoy)(starts:List Int)(list:List Int):fp (ts:=[.Convoy]) it Pp (aU Tryd.f102) Tryd.f102.results.toList (bY [.Convoy, .sl (.int .i64), .sl (.int .i64)] (c,starts,list,()))=tg it c starts list:=by kernel_rfl
def Pk:cv ao.toSeat:=df ao.toSeat 102 [.Convoy, .sl (.int .i64), .sl (.int .i64)] [.Convoy] false (fun a=>fQ a.1 a.2.1 a.2.2.1) (fun a x hx h h' =>bF (Z:=ao) (ats:=[.Convoy, .sl (.int .i64), .sl (.int .i64)]) (ts:=[.Convoy]) (E:=Pp) (fn:=Tryd.f102) (c:=aU Tryd.f102) Tryd.func102 (by kernel_rfl) (by kernel_rfl) (by kernel_rfl) (by kernel_rfl) rfl ((Q4 cH a.1 a.2.1 a.2.2.1).trans ((tU a.1 a.2.1 a.2.2.1).symm.trans hx)) h h') (fun h=>nomatch h)
def vb(starts:List Int)(c:Convoy)(x56:Int)(all:List (List bq))(kn_:(List Int)→(List (List bq))→Int→Option ((List Int)×Span×Int))(list2:List Int)(row:List bq)(x61:Int)(kn_2:(List Int)→(List bq)→Int→Option ((List Int)×Span×Int)):Option ((List Int)×Span×Int):=
 bif (decide (x61<(starts.length:Int)))then
 aP (C3 (c.Trucks.length:Int) 8)<|
 aP (decide (0≤x56)&&decide (x56<((List.replicate (c.Trucks.length:Int).toNat (0:Int)).length:Int)))<|
 aP (decide (x56.toNat<(List.replicate (c.Trucks.length:Int).toNat (0:Int)).length))<|
 (fQ c starts ((List.replicate (c.Trucks.length:Int).toNat (0:Int)).set x56.toNat x61)).bind fun r3=>
 (sC r3).bind fun r4=>
 aP (decide (0≤x56)&&decide (x56<(r4.length:Int)))<|
 aP (fV (row.length+([(r4.getD x56.toNat fX)]:List bq).length) 176)<|
 kn_2 list2 (row++([(r4.getD x56.toNat fX)]:List bq)) (bG (x61+1))
 else
 aP (fV (all.length+[row].length) 24)<|
 kn_ list2 (all++[row]) (bG (x56+1))
def oJ(x100:Int)(all:List (List bq))(now:List Int)(c:Convoy)(kn_4:(List Int)→Bool→Int→Int→Option ((List Int)×Span×Int))(late:Int)(r5:Int)(list5:List Int)(fits2:Bool)(j:Int)(kn_5:(List Int)→Bool→Int→Option ((List Int)×Span×Int)):Option ((List Int)×Span×Int):=
 bif (decide (j<x100))then
 bif fits2 then
 aP (decide (0≤j)&&decide (j<(all.length:Int)))<|
 aP (decide (j.toNat<all.length))<|
 aP (decide (0≤j)&&decide (j<(now.length:Int)))<|
 aP (decide (j.toNat<now.length))<|
 aP (decide (0≤(now.getD j.toNat 0))&&decide ((now.getD j.toNat 0)<((all.getD j.toNat []).length:Int)))<|
 aP (decide (0≤x100)&&decide (x100<(all.length:Int)))<|
 aP (decide (x100.toNat<all.length))<|
 aP (decide (0≤(now.getD x100.toNat 0))&&decide ((now.getD x100.toNat 0)<((all.getD x100.toNat []).length:Int)))<|
 (apart (⟨c.Gap,c.Fails⟩:bC) ((all.getD j.toNat []).getD (now.getD j.toNat 0).toNat fX) ((all.getD x100.toNat []).getD (now.getD x100.toNat 0).toNat fX)).bind fun r6=>
 kn_5 list5 r6 (bG (j+1))
 else
 kn_4 list5 fits2 (max late r5) (bG (x100+1))
 else
 kn_4 list5 fits2 (max late r5) (bG (x100+1))
def nU(starts:List Int)(kn_3:(List Int)→(List Int)→Int→Int→Option ((List Int)×Span×Int))(late:Int)(c:Convoy)(list6:List Int)(now2:List Int)(i:Int)(kn_6:(List Int)→(List Int)→Int→Option ((List Int)×Span×Int)):Option ((List Int)×Span×Int):=
 bif (decide (i≥0))then
 aP (decide (0≤i)&&decide (i<(now2.length:Int)))<|
 aP (decide (i.toNat<now2.length))<|
 aP (decide (0≤i)&&decide (i<(now2.length:Int)))<|
 aP (decide (i.toNat<now2.length))<|
 aP (decide (0≤i)&&decide (i<((now2.set i.toNat (bG ((now2.getD i.toNat 0)+1))).length:Int)))<|
 aP (decide (i.toNat<(now2.set i.toNat (bG ((now2.getD i.toNat 0)+1))).length))<|
 bif (decide (((now2.set i.toNat (bG ((now2.getD i.toNat 0)+1))).getD i.toNat 0)<(starts.length:Int)))then
 aP (decide (0≤(bG (i+1)))&&decide ((bG (i+1))≤((now2.set i.toNat (bG ((now2.getD i.toNat 0)+1))).length:Int))&&decide (((now2.set i.toNat (bG ((now2.getD i.toNat 0)+1))).length:Int)≤((now2.set i.toNat (bG ((now2.getD i.toNat 0)+1))).length:Int)))<|
 aP (decide ((bG (i+1)).toNat+(((now2.set i.toNat (bG ((now2.getD i.toNat 0)+1))).length:Int).toNat-(bG (i+1)).toNat)≤(now2.set i.toNat (bG ((now2.getD i.toNat 0)+1))).length))<|
 kn_3 list6 (nm (now2.set i.toNat (bG ((now2.getD i.toNat 0)+1))) ((bG (i+1)).toNat) (((now2.set i.toNat (bG ((now2.getD i.toNat 0)+1))).length:Int).toNat-(bG (i+1)).toNat)) 0 late
 else
 kn_6 list6 (now2.set i.toNat (bG ((now2.getD i.toNat 0)+1))) (bG (i-1))
 else
 bif (list6.isEmpty)then
 some ([],(⟨0,0⟩:Span),7)
 else
 (fQ c starts list6).bind fun r8=>
 (vV r8).bind fun r9=>
 some (list6,r9,0)
def la(starts:List Int)(kn_3:(List Int)→(List Int)→Int→Int→Option ((List Int)×Span×Int))(late:Int)(c:Convoy)(list7:List Int)(now3:List Int)(i2:Int)(kn_7:(List Int)→(List Int)→Int→Option ((List Int)×Span×Int)):Option ((List Int)×Span×Int):=
 bif (decide (i2≥0))then
 aP (decide (0≤i2)&&decide (i2<(now3.length:Int)))<|
 aP (decide (i2.toNat<now3.length))<|
 aP (decide (0≤i2)&&decide (i2<(now3.length:Int)))<|
 aP (decide (i2.toNat<now3.length))<|
 aP (decide (0≤i2)&&decide (i2<((now3.set i2.toNat (bG ((now3.getD i2.toNat 0)+1))).length:Int)))<|
 aP (decide (i2.toNat<(now3.set i2.toNat (bG ((now3.getD i2.toNat 0)+1))).length))<|
 bif (decide (((now3.set i2.toNat (bG ((now3.getD i2.toNat 0)+1))).getD i2.toNat 0)<(starts.length:Int)))then
 aP (decide (0≤(bG (i2+1)))&&decide ((bG (i2+1))≤((now3.set i2.toNat (bG ((now3.getD i2.toNat 0)+1))).length:Int))&&decide (((now3.set i2.toNat (bG ((now3.getD i2.toNat 0)+1))).length:Int)≤((now3.set i2.toNat (bG ((now3.getD i2.toNat 0)+1))).length:Int)))<|
 aP (decide ((bG (i2+1)).toNat+(((now3.set i2.toNat (bG ((now3.getD i2.toNat 0)+1))).length:Int).toNat-(bG (i2+1)).toNat)≤(now3.set i2.toNat (bG ((now3.getD i2.toNat 0)+1))).length))<|
 kn_3 list7 (nm (now3.set i2.toNat (bG ((now3.getD i2.toNat 0)+1))) ((bG (i2+1)).toNat) (((now3.set i2.toNat (bG ((now3.getD i2.toNat 0)+1))).length:Int).toNat-(bG (i2+1)).toNat)) 0 late
 else
 kn_7 list7 (now3.set i2.toNat (bG ((now3.getD i2.toNat 0)+1))) (bG (i2-1))
 else
 bif (list7.isEmpty)then
 some ([],(⟨0,0⟩:Span),7)
 else
 (fQ c starts list7).bind fun r11=>
 (vV r11).bind fun r12=>
 some (list7,r12,0)
def ey(starts:List Int)(kn_3:(List Int)→(List Int)→Int→Int→Option ((List Int)×Span×Int))(best_Lo:Int)(best_Hi:Int)(c:Convoy)(list8:List Int)(now4:List Int)(i3:Int)(kn_8:(List Int)→(List Int)→Int→Option ((List Int)×Span×Int)):Option ((List Int)×Span×Int):=
 bif (decide (i3≥0))then
 aP (decide (0≤i3)&&decide (i3<(now4.length:Int)))<|
 aP (decide (i3.toNat<now4.length))<|
 aP (decide (0≤i3)&&decide (i3<(now4.length:Int)))<|
 aP (decide (i3.toNat<now4.length))<|
 aP (decide (0≤i3)&&decide (i3<((now4.set i3.toNat (bG ((now4.getD i3.toNat 0)+1))).length:Int)))<|
 aP (decide (i3.toNat<(now4.set i3.toNat (bG ((now4.getD i3.toNat 0)+1))).length))<|
 bif (decide (((now4.set i3.toNat (bG ((now4.getD i3.toNat 0)+1))).getD i3.toNat 0)<(starts.length:Int)))then
 aP (decide (0≤(bG (i3+1)))&&decide ((bG (i3+1))≤((now4.set i3.toNat (bG ((now4.getD i3.toNat 0)+1))).length:Int))&&decide (((now4.set i3.toNat (bG ((now4.getD i3.toNat 0)+1))).length:Int)≤((now4.set i3.toNat (bG ((now4.getD i3.toNat 0)+1))).length:Int)))<|
 aP (decide ((bG (i3+1)).toNat+(((now4.set i3.toNat (bG ((now4.getD i3.toNat 0)+1))).length:Int).toNat-(bG (i3+1)).toNat)≤(now4.set i3.toNat (bG ((now4.getD i3.toNat 0)+1))).length))<|
 kn_3 list8 (nm (now4.set i3.toNat (bG ((now4.getD i3.toNat 0)+1))) ((bG (i3+1)).toNat) (((now4.set i3.toNat (bG ((now4.getD i3.toNat 0)+1))).length:Int).toNat-(bG (i3+1)).toNat)) best_Lo best_Hi
 else
 kn_8 list8 (now4.set i3.toNat (bG ((now4.getD i3.toNat 0)+1))) (bG (i3-1))
 else
 bif (list8.isEmpty)then
 some ([],(⟨0,0⟩:Span),7)
 else
 (fQ c starts list8).bind fun r13=>
 (vV r13).bind fun r14=>
 some (list8,r14,0)
def kW(starts:List Int)(kn_3:(List Int)→(List Int)→Int→Int→Option ((List Int)×Span×Int))(best_Lo:Int)(best_Hi:Int)(c:Convoy)(list9:List Int)(now5:List Int)(i4:Int)(kn_9:(List Int)→(List Int)→Int→Option ((List Int)×Span×Int)):Option ((List Int)×Span×Int):=
 bif (decide (i4≥0))then
 aP (decide (0≤i4)&&decide (i4<(now5.length:Int)))<|
 aP (decide (i4.toNat<now5.length))<|
 aP (decide (0≤i4)&&decide (i4<(now5.length:Int)))<|
 aP (decide (i4.toNat<now5.length))<|
 aP (decide (0≤i4)&&decide (i4<((now5.set i4.toNat (bG ((now5.getD i4.toNat 0)+1))).length:Int)))<|
 aP (decide (i4.toNat<(now5.set i4.toNat (bG ((now5.getD i4.toNat 0)+1))).length))<|
 bif (decide (((now5.set i4.toNat (bG ((now5.getD i4.toNat 0)+1))).getD i4.toNat 0)<(starts.length:Int)))then
 aP (decide (0≤(bG (i4+1)))&&decide ((bG (i4+1))≤((now5.set i4.toNat (bG ((now5.getD i4.toNat 0)+1))).length:Int))&&decide (((now5.set i4.toNat (bG ((now5.getD i4.toNat 0)+1))).length:Int)≤((now5.set i4.toNat (bG ((now5.getD i4.toNat 0)+1))).length:Int)))<|
 aP (decide ((bG (i4+1)).toNat+(((now5.set i4.toNat (bG ((now5.getD i4.toNat 0)+1))).length:Int).toNat-(bG (i4+1)).toNat)≤(now5.set i4.toNat (bG ((now5.getD i4.toNat 0)+1))).length))<|
 kn_3 list9 (nm (now5.set i4.toNat (bG ((now5.getD i4.toNat 0)+1))) ((bG (i4+1)).toNat) (((now5.set i4.toNat (bG ((now5.getD i4.toNat 0)+1))).length:Int).toNat-(bG (i4+1)).toNat)) best_Lo best_Hi
 else
 kn_9 list9 (now5.set i4.toNat (bG ((now5.getD i4.toNat 0)+1))) (bG (i4-1))
 else
 bif (list9.isEmpty)then
 some ([],(⟨0,0⟩:Span),7)
 else
 (fQ c starts list9).bind fun r15=>
 (vV r15).bind fun r16=>
 some (list9,r16,0)
def nR(it:It ((List Int)×Span×Int))(now:List Int)(all:List (List bq))(c:Convoy)(starts:List Int)(kn_3:(List Int)→(List Int)→Int→Int→Option ((List Int)×Span×Int))(best_Hi:Int)(best_Lo:Int)(list4:List Int)(fits:Bool)(late:Int)(x100:Int)(kn_4:(List Int)→Bool→Int→Int→Option ((List Int)×Span×Int)):Option ((List Int)×Span×Int):=
 bif (decide (x100<(now.length:Int)))then
 aP (decide (0≤x100)&&decide (x100<(now.length:Int)))<|
 aP (decide (x100.toNat<now.length))<|
 aP (decide (0≤x100)&&decide (x100<(all.length:Int)))<|
 aP (decide (x100.toNat<all.length))<|
 aP (decide (0≤(now.getD x100.toNat 0))&&decide ((now.getD x100.toNat 0)<((all.getD x100.toNat []).length:Int)))<|
 (km (((all.getD x100.toNat []).getD (now.getD x100.toNat 0).toNat fX).a)).bind fun r5=>
 it _ (fun(v_0:(Unit×(List Int)×Unit×Unit×Unit×Unit×Bool×Int×Unit×Unit)×(Unit)) kn=>oJ x100 all now c kn_4 late r5 v_0.1.2.1 v_0.1.2.2.2.2.2.2.1 v_0.1.2.2.2.2.2.2.2.1 (fun y0 y1 y2=>kn (((),y0,(),(),(),(),y1,y2,(),()),(())))) (((),list4,(),(),(),(),fits,0,(),()),(()))
 else
 bif fits then
 bif (list4.isEmpty)then
 (jZ now).bind fun r7=>
 aP (!r7.isEmpty)<|
 it _ (fun(v_0:(Unit×(List Int)×Unit×Unit×Unit×(List Int)×Int×Unit)×(Unit)) kn=>nU starts kn_3 late c v_0.1.2.1 v_0.1.2.2.2.2.2.1 v_0.1.2.2.2.2.2.2.1 (fun y0 y1 y2=>kn (((),y0,(),(),(),y1,y2,()),(())))) (((),r7,(),(),(),now,(bG ((now.length:Int)-1)),()),(()))
 else
 bif (decide (late<best_Hi))then
 (jZ now).bind fun r10=>
 aP (!r10.isEmpty)<|
 it _ (fun(v_0:(Unit×(List Int)×Unit×Unit×Unit×(List Int)×Int×Unit)×(Unit)) kn=>la starts kn_3 late c v_0.1.2.1 v_0.1.2.2.2.2.2.1 v_0.1.2.2.2.2.2.2.1 (fun y0 y1 y2=>kn (((),y0,(),(),(),y1,y2,()),(())))) (((),r10,(),(),(),now,(bG ((now.length:Int)-1)),()),(()))
 else
 it _ (fun(v_0:(Unit×(List Int)×Unit×Unit×Unit×(List Int)×Int×Unit)×(Unit)) kn=>ey starts kn_3 best_Lo best_Hi c v_0.1.2.1 v_0.1.2.2.2.2.2.1 v_0.1.2.2.2.2.2.2.1 (fun y0 y1 y2=>kn (((),y0,(),(),(),y1,y2,()),(())))) (((),list4,(),(),(),now,(bG ((now.length:Int)-1)),()),(()))
 else
 it _ (fun(v_0:(Unit×(List Int)×Unit×Unit×Unit×(List Int)×Int×Unit)×(Unit)) kn=>kW starts kn_3 best_Lo best_Hi c v_0.1.2.1 v_0.1.2.2.2.2.2.1 v_0.1.2.2.2.2.2.2.1 (fun y0 y1 y2=>kn (((),y0,(),(),(),y1,y2,()),(())))) (((),list4,(),(),(),now,(bG ((now.length:Int)-1)),()),(()))
def qh(it:It ((List Int)×Span×Int))(all:List (List bq))(c:Convoy)(starts:List Int)(list3:List Int)(now:List Int)(best_Lo:Int)(best_Hi:Int)(kn_3:(List Int)→(List Int)→Int→Int→Option ((List Int)×Span×Int)):Option ((List Int)×Span×Int):=
 it _ (fun(v_0:(Unit×(List Int)×Unit×Unit×Unit×Unit×Bool×Int×Unit×Int×Unit)×(Unit)) kn=>nR it now all c starts kn_3 best_Hi best_Lo v_0.1.2.1 v_0.1.2.2.2.2.2.2.1 v_0.1.2.2.2.2.2.2.2.1 v_0.1.2.2.2.2.2.2.2.2.2.1 (fun y0 y1 y2 y3=>kn (((),y0,(),(),(),(),y1,y2,(),y3,()),(())))) (((),list3,(),(),(),(),true,0,(),0,()),(()))
def wm(it:It ((List Int)×Span×Int))(c:Convoy)(starts:List Int)(list:List Int)(all:List (List bq))(x56:Int)(kn_:(List Int)→(List (List bq))→Int→Option ((List Int)×Span×Int)):Option ((List Int)×Span×Int):=
 bif (decide (x56<(c.Trucks.length:Int)))then
 it _ (fun(v_0:(Unit×(List Int)×Unit×Unit×(List bq)×Int×Unit)×(Unit)) kn=>vb starts c x56 all kn_ v_0.1.2.1 v_0.1.2.2.2.2.1 v_0.1.2.2.2.2.2.1 (fun y0 y1 y2=>kn (((),y0,(),(),y1,y2,()),(())))) (((),list,(),(),([]:List bq),0,()),(()))
 else
 aP (C3 (c.Trucks.length:Int) 8)<|
 it _ (fun(v_0:(Unit×(List Int)×Unit×Unit×Unit×(List Int)×Unit)×((Int×Int×Unit)×Unit)) kn=>qh it all c starts v_0.1.2.1 v_0.1.2.2.2.2.2.1 v_0.2.1.1 v_0.2.1.2.1 (fun y0 y1 y2 y3=>kn (((),y0,(),(),(),y1,()),((y2,y3,()),())))) (((),list,(),(),(),(List.replicate (c.Trucks.length:Int).toNat (0:Int)),()),((0,0,()),()))
def oL(it:It ((List Int)×Span×Int))(c:Convoy)(starts:List Int):Option ((List Int)×Span×Int):=
 (vO c).bind fun r=>
 bif (r !=0)then
 some ([],(⟨0,0⟩:Span),r)
 else
 bif ((c.Trucks.length:Int)==0)then
 some ([],(⟨0,0⟩:Span),6)
 else
 bif ((starts.length:Int)==0)then
 some ([],(⟨0,0⟩:Span),6)
 else
 bif (decide ((c.Trucks.length:Int)>5))then
 some ([],(⟨0,0⟩:Span),8)
 else
 bif (decide ((starts.length:Int)>6))then
 some ([],(⟨0,0⟩:Span),8)
 else
 (fE starts ()).bind fun r2=>
 bif r2 then
 some ([],(⟨0,0⟩:Span),2)
 else
 it _ (fun(v_0:(Unit×(List Int)×Unit×(List (List bq))×Int×Unit)×(Unit)) kn=>wm it c starts v_0.1.2.1 v_0.1.2.2.2.1 v_0.1.2.2.2.2.1 (fun y0 y1 y2=>kn (((),y0,(),y1,y2,()),(())))) (((),[],(),([]:List (List bq)),0,()),(()))
def gP:Convoy→(List Int)→Option ((List Int)×Span×Int):=ij (fun c starts=>oL cH c starts)
theorem pK(c:Convoy)(starts:List Int):gP c starts=oL cH c starts:=by unfold gP;rw[bT]
def Sn:du ao:=⟨⟨192,[Tz,P9,Pk,QN,O2,QM,SX],[],[],[O4],[],[],[],[],[],[],[4,81,86,156,182],[],true⟩,[(12,⟨⟨[(2, .bx 2 0),(4, .vn (.int .i64)),(5, .bx 5 0),(8, .os 8 128 (.sl .bq)),(56, .v (.int .i64))],[]⟩,[1,55],[2,5],[]⟩),(16,⟨⟨[(2, .bx 2 0),(4, .vn (.int .i64)),(5, .bx 5 0),(8, .osr 8),(10, .os 10 132 .bq),(61, .v (.int .i64))],[]⟩,[9,56,60],[8],[]⟩),(28,⟨⟨[(2, .bx 2 0),(4, .vn (.int .i64)),(5, .bx 5 0),(8, .osr 8),(13, .bx 13 0),(14, .osr 97),(15, .v .bool),(16, .v (.int .i64)),(98, .osr 97),(100, .v (.int .i64))],[]⟩,[99],[5,97],[]⟩),(32,⟨⟨[(2, .bx 2 0),(4, .vn (.int .i64)),(5, .bx 5 0),(8, .osr 8),(13, .bx 13 0),(14, .osr 97),(15, .v .bool),(19, .v (.int .i64)),(98, .osr 97)],[]⟩,[16,17,18,100],[],[]⟩),(39,⟨⟨[(2, .bx 2 0),(4, .vn (.int .i64)),(5, .bx 5 0),(8, .osr 8),(13, .bx 13 0),(14, .os 97 3 (.int .i64)),(20, .v (.int .i64))],[]⟩,[],[5],[]⟩),(500006,⟨⟨[(2, .bx 2 0),(4, .vn (.int .i64)),(5, .bx 5 0),(8, .osr 8),(13, .bx 13 0),(14, .os 97 3 (.int .i64))],[(5,[.v (.int .i64), .v (.int .i64)])]⟩,[1],[2,8,13],[]⟩)]⟩
theorem Tg(it:It ((List Int)×Span×Int))(c:Convoy)(starts:List Int):fp (ts:=[.sl (.int .i64), .Span, .int .i64]) it Sn (aU Tryd.f60) Tryd.f60.results.toList (bY [.Convoy, .sl (.int .i64)] (c,starts,()))=oL it c starts:=by kernel_rfl
def RP:cv ao.toSeat:=df ao.toSeat 60 [.Convoy, .sl (.int .i64)] [.sl (.int .i64), .Span, .int .i64] false (fun a=>gP a.1 a.2.1) (fun a x hx h h' =>bF (Z:=ao) (ats:=[.Convoy, .sl (.int .i64)]) (ts:=[.sl (.int .i64), .Span, .int .i64]) (E:=Sn) (fn:=Tryd.f60) (c:=aU Tryd.f60) Tryd.func60 (by kernel_rfl) (by kernel_rfl) (by kernel_rfl) (by kernel_rfl) rfl ((Tg cH a.1 a.2.1).trans ((pK a.1 a.2.1).symm.trans hx)) h h') (fun h=>nomatch h)
def AX(list:List Int)(starts:List Int)(c:Convoy)(l:List Truck)(i:Int)(kn_:(List Truck)→Int→Option (((List Int)×Unit)×Convoy)):Option (((List Int)×Unit)×Convoy):=
 bif (decide (i<(l.length:Int)))then
 aP (decide (0≤i)&&decide (i<(list.length:Int)))<|
 aP (decide (i.toNat<list.length))<|
 aP (decide (0≤(list.getD i.toNat 0))&&decide ((list.getD i.toNat 0)<(starts.length:Int)))<|
 aP (decide (0≤i)&&decide (i<(l.length:Int)))<|
 aP (decide (i.toNat<l.length))<|
 kn_ (l.set i.toNat (⟨(l.getD i.toNat aK).Way,(starts.getD (list.getD i.toNat 0).toNat 0),(l.getD i.toNat aK).Pace,(l.getD i.toNat aK).Holds⟩:Truck)) (bG (i+1))
 else
 some ((list,()),(⟨c.Length,c.Gap,c.Fails,l⟩:Convoy))
def qt(it:It (((List Int)×Unit)×Convoy))(list:List Int)(c:Convoy)(starts:List Int):Option (((List Int)×Unit)×Convoy):=
 aP (fV (([]:List Truck).length+c.Trucks.length) 56)<|
 it _ (fun(v_0:(Unit×Unit×Unit×(List Truck)×Int×Unit)×(Unit)) kn=>AX list starts c v_0.1.2.2.2.1 v_0.1.2.2.2.2.1 (fun y0 y1=>kn (((),(),(),y0,y1,()),(())))) (((),(),(),(([]:List Truck)++c.Trucks),0,()),(()))
def Mk:du ao:=⟨⟨33,[],[],[],[],[],[],[],[],[],[],[],(N7 0 [.a 3 (.int .i64)]),false⟩,[(3,⟨⟨[(2, .osr 900000000),(3, .bx 3 0),(6, .bx 6 0),(7, .os 9 50 .Truck),(8, .v (.int .i64))],[]⟩,[1],[900000000,3,6],[]⟩)]⟩
theorem Pg(it:It (((List Int)×Unit)×Convoy))(list:List Int)(c:Convoy)(starts:List Int):DR [.a 3 (.int .i64)] (ts:=[.Convoy]) it (Mk) (aU Tryd.f105) Tryd.f105.results.toList (list,()) (mw [.d .Convoy, .d (.sl (.int .i64)), .o 0] (c,starts,()))=qt it list c starts:=by kernel_rfl
def lT:((List Int)×Unit)→(Convoy×(List Int)×Unit)→Option (((List Int)×Unit)×Convoy):=ij (fun x a=>qt cH x.1 a.1 a.2.1)
theorem sj:lT=fun x a=>qt cH x.1 a.1 a.2.1:=by unfold lT;rw[bT]
def Nf:kQ ao.toSeat:=Fi ao.toSeat 105 [.a 3 (.int .i64)] [.d .Convoy, .d (.sl (.int .i64)), .o 0] [.Convoy] [2] [] lT (fun x a y z hx=>rR (Z:=ao) (bks:=[.a 3 (.int .i64)]) (aks:=[.d .Convoy, .d (.sl (.int .i64)), .o 0]) (ts:=[.Convoy]) (E:=Mk) (fn:=Tryd.f105) (c:=aU Tryd.f105) Tryd.func105 (by kernel_rfl) (by kernel_rfl) (by kernel_rfl) (by kernel_rfl) rfl rfl (by kernel_rfl) (by kernel_rfl) ((Pg cH x.1 a.1 a.2.1).trans ((congrFun (congrFun sj x) a).symm.trans hx)))
def nZ(c:Convoy)(starts:List Int)(best:List Int)(list:List Int)(more:Bool)(when_Lo:Int)(when_Hi:Int)(kn_2:(List Int)→(List Int)→Bool→Int→Int→Option ((List Int)×Span×Int)):Option ((List Int)×Span×Int):=
 bif more then
 (lT (list,()) (c,starts,())).bind fun r3=>
 (yW r3.2).bind fun r4=>
 bif (best.isEmpty)then
 (accepted r3.2).bind fun r5=>
 bif r5 then
 aP (fV (([]:List Int).length+r3.1.1.length) 8)<|
 (count (r3.1.1,()) ((starts.length:Int),())).bind fun r6=>
 aP (!(([]:List Int)++r3.1.1).isEmpty)<|
 kn_2 (([]:List Int)++r3.1.1) r6.1.1 r6.2 r4.Lo r4.Hi
 else
 (count (r3.1.1,()) ((starts.length:Int),())).bind fun r7=>
 kn_2 best r7.1.1 r7.2 when_Lo when_Hi
 else
 bif (decide (r4.Hi<when_Hi))then
 (accepted r3.2).bind fun r8=>
 bif r8 then
 aP (fV (([]:List Int).length+r3.1.1.length) 8)<|
 (count (r3.1.1,()) ((starts.length:Int),())).bind fun r9=>
 aP (!(([]:List Int)++r3.1.1).isEmpty)<|
 kn_2 (([]:List Int)++r3.1.1) r9.1.1 r9.2 r4.Lo r4.Hi
 else
 (count (r3.1.1,()) ((starts.length:Int),())).bind fun r10=>
 kn_2 best r10.1.1 r10.2 when_Lo when_Hi
 else
 (count (r3.1.1,()) ((starts.length:Int),())).bind fun r11=>
 kn_2 best r11.1.1 r11.2 when_Lo when_Hi
 else
 bif (best.isEmpty)then
 some (([]:List Int),(⟨0,0⟩:Span),7)
 else
 some (best,(⟨when_Lo,when_Hi⟩:Span),0)
def xF(it:It ((List Int)×Span×Int))(starts:List Int)(c:Convoy)(i:Int)(x5_Lo:Int)(x5_Hi:Int)(kn_:Int→Int→Int→Option ((List Int)×Span×Int)):Option ((List Int)×Span×Int):=
 bif (decide (i<(starts.length:Int)))then
 aP (decide (0≤i)&&decide (i<(starts.length:Int)))<|
 (within (starts.getD i.toNat 0) 0 10000).bind fun r2=>
 bif (!r2)then
 some (([]:List Int),(⟨0,0⟩:Span),2)
 else
 kn_ (bG (i+1)) x5_Lo x5_Hi
 else
 aP (C3 (c.Trucks.length:Int) 8)<|
 it _ (fun(v_0:(Unit×Unit×(List Int)×Unit×(List Int)×Bool×Unit)×((Int×Int×Unit)×Unit)) kn=>nZ c starts v_0.1.2.2.1 v_0.1.2.2.2.2.1 v_0.1.2.2.2.2.2.1 v_0.2.1.1 v_0.2.1.2.1 (fun y0 y1 y2 y3 y4=>kn (((),(),y0,(),y1,y2,()),((y3,y4,()),())))) (((),(),[],(),(List.replicate (c.Trucks.length:Int).toNat (0:Int)),true,()),((0,0,()),()))
def nI(it:It ((List Int)×Span×Int))(c:Convoy)(starts:List Int):Option ((List Int)×Span×Int):=
 (vR c).bind fun r=>
 bif (r !=0)then
 some (([]:List Int),(⟨0,0⟩:Span),r)
 else
 bif ((c.Trucks.length:Int)==0)then
 some (([]:List Int),(⟨0,0⟩:Span),6)
 else
 bif ((starts.length:Int)==0)then
 some (([]:List Int),(⟨0,0⟩:Span),6)
 else
 bif (decide ((c.Trucks.length:Int)>5))then
 some (([]:List Int),(⟨0,0⟩:Span),8)
 else
 bif (decide ((starts.length:Int)>6))then
 some (([]:List Int),(⟨0,0⟩:Span),8)
 else
 it _ (fun(v_0:(Unit×Unit×Int×Unit)×((Int×Int×Unit)×Unit)) kn=>xF it starts c v_0.1.2.2.1 v_0.2.1.1 v_0.2.1.2.1 (fun y0 y1 y2=>kn (((),(),y0,()),((y1,y2,()),())))) (((),(),0,()),((0,0,()),()))
def gS:Convoy→(List Int)→Option ((List Int)×Span×Int):=ij (fun c starts=>nI cH c starts)
theorem pT(c:Convoy)(starts:List Int):gS c starts=nI cH c starts:=by unfold gS;rw[bT]
def Sv:du ao:=⟨⟨91,[Tr,Q5,SW,Q9],[],[],[],[],[],[Nf,PY],[],[],[],[9],[],true⟩,[(9,⟨⟨[(2, .bx 2 0),(5, .bx 5 0),(8, .v (.int .i64))],[(5,[.v (.int .i64), .v (.int .i64)])]⟩,[1],[2],[]⟩),(17,⟨⟨[(2, .bx 2 0),(5, .bx 5 0),(9, .vn (.int .i64)),(10, .bx 10 0),(11, .os 57 3 (.int .i64)),(12, .v .bool)],[(10,[.v (.int .i64), .v (.int .i64)])]⟩,[1],[2,5],[]⟩)]⟩
theorem Tx(it:It ((List Int)×Span×Int))(c:Convoy)(starts:List Int):fp (ts:=[.sl (.int .i64), .Span, .int .i64]) it Sv (aU Tryd.f61) Tryd.f61.results.toList (bY [.Convoy, .sl (.int .i64)] (c,starts,()))=nI it c starts:=by kernel_rfl
def Rw:cv ao.toSeat:=df ao.toSeat 61 [.Convoy, .sl (.int .i64)] [.sl (.int .i64), .Span, .int .i64] false (fun a=>gS a.1 a.2.1) (fun a x hx h h' =>bF (Z:=ao) (ats:=[.Convoy, .sl (.int .i64)]) (ts:=[.sl (.int .i64), .Span, .int .i64]) (E:=Sv) (fn:=Tryd.f61) (c:=aU Tryd.f61) Tryd.func61 (by kernel_rfl) (by kernel_rfl) (by kernel_rfl) (by kernel_rfl) rfl ((Tx cH a.1 a.2.1).trans ((pT a.1 a.2.1).symm.trans hx)) h h') (fun h=>nomatch h)
def nj(c:Convoy)(r7:(aQ×Convoy))(starts:List Int)(some_:List Int)(i2:Int)(kn_2:Int→Option Bool):Option Bool:=
 bif (decide (i2<(([c,r7.2]:List Convoy).length:Int)))then
 aP (decide (0≤i2)&&decide (i2<(([c,r7.2]:List Convoy).length:Int)))<|
 aP (decide (i2.toNat<([c,r7.2]:List Convoy).length))<|
 (gQ (([c,r7.2]:List Convoy).getD i2.toNat cR)).bind fun r11=>
 aP (decide (0≤i2)&&decide (i2<([starts,some_].length:Int)))<|
 aP (decide (i2.toNat<[starts,some_].length))<|
 (Own ([starts,some_].getD i2.toNat [])).bind fun r12=>
 (gP r11 r12).bind fun r13=>
 aP (decide (0≤i2)&&decide (i2<(([c,r7.2]:List Convoy).length:Int)))<|
 aP (decide (i2.toNat<([c,r7.2]:List Convoy).length))<|
 aP (decide (0≤i2)&&decide (i2<([starts,some_].length:Int)))<|
 aP (decide (i2.toNat<[starts,some_].length))<|
 (gS (([c,r7.2]:List Convoy).getD i2.toNat cR) ([starts,some_].getD i2.toNat [])).bind fun r14=>
 (xJ r13.1 r14.1).bind fun r15=>
 bif (!r15)then
 some false
 else
 bif (!(decide (r13.2.1.Lo=r14.2.1.Lo)&&(decide (r13.2.1.Hi=r14.2.1.Hi)&&true)))then
 some false
 else
 bif (r13.2.2 !=r14.2.2)then
 some false
 else
 aP (decide (0≤i2)&&decide (i2<(([c,r7.2]:List Convoy).length:Int)))<|
 aP (decide (i2.toNat<([c,r7.2]:List Convoy).length))<|
 (ft r11 (([c,r7.2]:List Convoy).getD i2.toNat cR)).bind fun r16=>
 bif (!r16)then
 some false
 else
 aP (decide (0≤i2)&&decide (i2<([starts,some_].length:Int)))<|
 aP (decide (i2.toNat<[starts,some_].length))<|
 (xJ r12 ([starts,some_].getD i2.toNat [])).bind fun r17=>
 bif (!r17)then
 some false
 else
 kn_2 (bG (i2+1))
 else
 (ma).bind fun r18=>
 some r18
def ie(it:It Bool)(c:Convoy)(r7:(aQ×Convoy))(starts:List Int)(some_:List Int)(i:Int)(x51_word:Int)(kn_:(List Int)→Int→Int→Option Bool):Option Bool:=
 bif (decide (i>0))then
 (Below (⟨x51_word⟩:aQ) 200).bind fun r9=>
 (Of r9.1 [0,r9.2]).bind fun r10=>
 aP (fV (some_.length+[r10.2].length) 8)<|
 kn_ (some_++[r10.2]) (bG (i-1)) r10.1.word
 else
 it _ (fun(v_0:(Unit×Unit×Int×Unit)×(Unit)) kn=>nj c r7 starts some_ v_0.1.2.2.1 (fun y0=>kn (((),(),y0,()),(())))) (((),(),0,()),(()))
def qi(c:Convoy)(r20:(aQ×Convoy))(starts:List Int)(some_2:List Int)(i4:Int)(kn_4:Int→Option Bool):Option Bool:=
 bif (decide (i4<(([c,r20.2]:List Convoy).length:Int)))then
 aP (decide (0≤i4)&&decide (i4<(([c,r20.2]:List Convoy).length:Int)))<|
 aP (decide (i4.toNat<([c,r20.2]:List Convoy).length))<|
 (gQ (([c,r20.2]:List Convoy).getD i4.toNat cR)).bind fun r24=>
 aP (decide (0≤i4)&&decide (i4<([starts,some_2].length:Int)))<|
 aP (decide (i4.toNat<[starts,some_2].length))<|
 (Own ([starts,some_2].getD i4.toNat [])).bind fun r25=>
 (gP r24 r25).bind fun r26=>
 aP (decide (0≤i4)&&decide (i4<(([c,r20.2]:List Convoy).length:Int)))<|
 aP (decide (i4.toNat<([c,r20.2]:List Convoy).length))<|
 aP (decide (0≤i4)&&decide (i4<([starts,some_2].length:Int)))<|
 aP (decide (i4.toNat<[starts,some_2].length))<|
 (gS (([c,r20.2]:List Convoy).getD i4.toNat cR) ([starts,some_2].getD i4.toNat [])).bind fun r27=>
 (xJ r26.1 r27.1).bind fun r28=>
 bif (!r28)then
 some false
 else
 bif (!(decide (r26.2.1.Lo=r27.2.1.Lo)&&(decide (r26.2.1.Hi=r27.2.1.Hi)&&true)))then
 some false
 else
 bif (r26.2.2 !=r27.2.2)then
 some false
 else
 aP (decide (0≤i4)&&decide (i4<(([c,r20.2]:List Convoy).length:Int)))<|
 aP (decide (i4.toNat<([c,r20.2]:List Convoy).length))<|
 (ft r24 (([c,r20.2]:List Convoy).getD i4.toNat cR)).bind fun r29=>
 bif (!r29)then
 some false
 else
 aP (decide (0≤i4)&&decide (i4<([starts,some_2].length:Int)))<|
 aP (decide (i4.toNat<[starts,some_2].length))<|
 (xJ r25 ([starts,some_2].getD i4.toNat [])).bind fun r30=>
 bif (!r30)then
 some false
 else
 kn_4 (bG (i4+1))
 else
 (ma).bind fun r31=>
 some r31
def k8(it:It Bool)(c:Convoy)(r20:(aQ×Convoy))(starts:List Int)(some_2:List Int)(i3:Int)(x51_word2:Int)(kn_3:(List Int)→Int→Int→Option Bool):Option Bool:=
 bif (decide (i3>0))then
 (Below (⟨x51_word2⟩:aQ) 200).bind fun r22=>
 (Of r22.1 [0,r22.2]).bind fun r23=>
 aP (fV (some_2.length+[r23.2].length) 8)<|
 kn_3 (some_2++[r23.2]) (bG (i3-1)) r23.1.word
 else
 it _ (fun(v_0:(Unit×Unit×Int×Unit)×(Unit)) kn=>qi c r20 starts some_2 v_0.1.2.2.1 (fun y0=>kn (((),(),y0,()),(())))) (((),(),0,()),(()))
def qF(c:Convoy)(r33:(aQ×Convoy))(starts:List Int)(some_3:List Int)(i6:Int)(kn_6:Int→Option Bool):Option Bool:=
 bif (decide (i6<(([c,r33.2]:List Convoy).length:Int)))then
 aP (decide (0≤i6)&&decide (i6<(([c,r33.2]:List Convoy).length:Int)))<|
 aP (decide (i6.toNat<([c,r33.2]:List Convoy).length))<|
 (gQ (([c,r33.2]:List Convoy).getD i6.toNat cR)).bind fun r37=>
 aP (decide (0≤i6)&&decide (i6<([starts,some_3].length:Int)))<|
 aP (decide (i6.toNat<[starts,some_3].length))<|
 (Own ([starts,some_3].getD i6.toNat [])).bind fun r38=>
 (gP r37 r38).bind fun r39=>
 aP (decide (0≤i6)&&decide (i6<(([c,r33.2]:List Convoy).length:Int)))<|
 aP (decide (i6.toNat<([c,r33.2]:List Convoy).length))<|
 aP (decide (0≤i6)&&decide (i6<([starts,some_3].length:Int)))<|
 aP (decide (i6.toNat<[starts,some_3].length))<|
 (gS (([c,r33.2]:List Convoy).getD i6.toNat cR) ([starts,some_3].getD i6.toNat [])).bind fun r40=>
 (xJ r39.1 r40.1).bind fun r41=>
 bif (!r41)then
 some false
 else
 bif (!(decide (r39.2.1.Lo=r40.2.1.Lo)&&(decide (r39.2.1.Hi=r40.2.1.Hi)&&true)))then
 some false
 else
 bif (r39.2.2 !=r40.2.2)then
 some false
 else
 aP (decide (0≤i6)&&decide (i6<(([c,r33.2]:List Convoy).length:Int)))<|
 aP (decide (i6.toNat<([c,r33.2]:List Convoy).length))<|
 (ft r37 (([c,r33.2]:List Convoy).getD i6.toNat cR)).bind fun r42=>
 bif (!r42)then
 some false
 else
 aP (decide (0≤i6)&&decide (i6<([starts,some_3].length:Int)))<|
 aP (decide (i6.toNat<[starts,some_3].length))<|
 (xJ r38 ([starts,some_3].getD i6.toNat [])).bind fun r43=>
 bif (!r43)then
 some false
 else
 kn_6 (bG (i6+1))
 else
 (ma).bind fun r44=>
 some r44
def lg(it:It Bool)(c:Convoy)(r33:(aQ×Convoy))(starts:List Int)(some_3:List Int)(i5:Int)(x51_word3:Int)(kn_5:(List Int)→Int→Int→Option Bool):Option Bool:=
 bif (decide (i5>0))then
 (Below (⟨x51_word3⟩:aQ) 200).bind fun r35=>
 (Of r35.1 [0,r35.2]).bind fun r36=>
 aP (fV (some_3.length+[r36.2].length) 8)<|
 kn_5 (some_3++[r36.2]) (bG (i5-1)) r36.1.word
 else
 it _ (fun(v_0:(Unit×Unit×Int×Unit)×(Unit)) kn=>qF c r33 starts some_3 v_0.1.2.2.1 (fun y0=>kn (((),(),y0,()),(())))) (((),(),0,()),(()))
def iu(it:It Bool)(c:Convoy)(starts:List Int)(nums:List Int):Option Bool:=
 (OO c).bind fun r=>
 bif r then
 (ma).bind fun r2=>
 some r2
 else
 bif (decide ((starts.length:Int)>9))then
 (ma).bind fun r3=>
 some r3
 else
 bif (decide ((c.Trucks.length:Int)≤5))then
 bif (decide ((starts.length:Int)≤6))then
 (many (c.Trucks.length:Int) (starts.length:Int)).bind fun r4=>
 bif (decide (r4>81))then
 (ma).bind fun r5=>
 some r5
 else
 (jM nums).bind fun r6=>
 (ir r6 3).bind fun r7=>
 (sK r7.1 1 4).bind fun r8=>
 it _ (fun(v_0:(Unit×Unit×Unit×(List Int)×Int×Unit)×((Int×Unit)×Unit)) kn=>ie it c r7 starts v_0.1.2.2.2.1 v_0.1.2.2.2.2.1 v_0.2.1.1 (fun y0 y1 y2=>kn (((),(),(),y0,y1,()),((y2,()),())))) (((),(),(),([]:List Int),r8.2,()),((r8.1.word,()),()))
 else
 (jM nums).bind fun r19=>
 (ir r19 3).bind fun r20=>
 (sK r20.1 1 4).bind fun r21=>
 it _ (fun(v_0:(Unit×Unit×Unit×(List Int)×Int×Unit)×((Int×Unit)×Unit)) kn=>k8 it c r20 starts v_0.1.2.2.2.1 v_0.1.2.2.2.2.1 v_0.2.1.1 (fun y0 y1 y2=>kn (((),(),(),y0,y1,()),((y2,()),())))) (((),(),(),([]:List Int),r21.2,()),((r21.1.word,()),()))
 else
 (jM nums).bind fun r32=>
 (ir r32 3).bind fun r33=>
 (sK r33.1 1 4).bind fun r34=>
 it _ (fun(v_0:(Unit×Unit×Unit×(List Int)×Int×Unit)×((Int×Unit)×Unit)) kn=>lg it c r33 starts v_0.1.2.2.2.1 v_0.1.2.2.2.2.1 v_0.2.1.1 (fun y0 y1 y2=>kn (((),(),(),y0,y1,()),((y2,()),())))) (((),(),(),([]:List Int),r34.2,()),((r34.1.word,()),()))
def ju:Convoy→(List Int)→(List Int)→Option Bool:=ij (fun c starts nums=>iu cH c starts nums)
theorem oR(c:Convoy)(starts:List Int)(nums:List Int):ju c starts nums=iu cH c starts nums:=by unfold ju;rw[bT]
def SK:du ao:=⟨⟨143,[SG,Su,RF,RT,RP,Rw,RW,Sa],[PN,Ky,Ca,Ox],[PK],[RY],[],[],[],[],[],[],[64,66],[],true⟩,[(7,⟨⟨[(3, .bx 3 0),(7, .bx 51 0),(8, .bx 8 0),(9, .os 9 3 (.int .i64)),(10, .v (.int .i64))],[(51,[.v (.int .u64)])]⟩,[1],[3,8],[]⟩),(12,⟨⟨[(11, .osr 70),(12, .osr 73),(13, .v (.int .i64))],[]⟩,[],[70,73],[]⟩)]⟩
theorem Th(it:It Bool)(c:Convoy)(starts:List Int)(nums:List Int):fp (ts:=[.bool]) it SK (aU Tryd.f16) Tryd.f16.results.toList (bY [.Convoy, .sl (.int .i64), .sl (.int .i64)] (c,starts,nums,()))=iu it c starts nums:=by kernel_rfl
end
end Go.Proofs.Plain04
