/- Walks by computing: what each function of the program that the laws reach gives for what it gets, as plain Lean, and that it is so; without a condition but those that stand in each theorem. -/
import Derived.Test.YtafnhieaeejlcaaDoorW1
import Derived.Test.YtafnhieaeejlcaaDoorW2
import Derived.Test.YtafnhieaeejlcaaDoorW3
import Derived.Test.YtafnhieaeejlcaaDoorW4
import Derived.Test.YtafnhieaeejlcaaDoorW5
import Derived.Test.YtafnhieaeejlcaaDoorW6
import Derived.Test.YtafnhieaeejlcaaDoorW7
import Derived.Test.YtafnhieaeejlcaaDoorW8
import Derived.Test.YtafnhieaeejlcaaDoorW9
import Derived.Test.YtafnhieaeejlcaaDoorW10
import Derived.Test.YtafnhieaeejlcaaDoorW11
import Derived.Test.YtafnhieaeejlcaaDoorW12
set_option linter.all false
namespace Go.Proofs.Plain04
open Go Go.Ab
open Go.Proofs.YtafnhieaeejlcaaDoor (ao)
set_option linter.all false
set_option maxRecDepth 100000
noncomputable section
def uU(it:It Bool)(n:Int)(low:Int)(high:Int):Option Bool:=
 bif (decide (n≥low))then
 some (decide (n≤high))
 else
 some false
def within:Int→Int→Int→Option Bool:=ij (fun n low high=>uU cH n low high)
theorem yi(n:Int)(low:Int)(high:Int):within n low high=uU cH n low high:=by unfold within;rw[bT]
def R0:du ao:=⟨⟨15,[],[],[],[],[],[],[],[],[],[],[],[],true⟩,[]⟩
theorem Tf(it:It Bool)(n:Int)(low:Int)(high:Int):fp (ts:=[.bool]) it R0 (aU Tryd.f66) Tryd.f66.results.toList (bY [.int .i64, .int .i64, .int .i64] (n,low,high,()))=uU it n low high:=by kernel_rfl
def Q5:cv ao.toSeat:=df ao.toSeat 66 [.int .i64, .int .i64, .int .i64] [.bool] true (fun a=>within a.1 a.2.1 a.2.2.1) (fun a x hx h h' =>bF (Z:=ao) (ats:=[.int .i64, .int .i64, .int .i64]) (ts:=[.bool]) (E:=R0) (fn:=Tryd.f66) (c:=aU Tryd.f66) Tryd.func66 (by kernel_rfl) (by kernel_rfl) (by kernel_rfl) (by kernel_rfl) rfl ((Tf cH a.1 a.2.1 a.2.2.1).trans ((yi a.1 a.2.1 a.2.2.1).symm.trans hx)) h h') (fun _ x=>rfl)
def O3(it:It Truck)(t:Truck)(fails:Bool):Option Truck:=
 bif fails then
 some (⟨t.Way,t.Start,t.Pace,[]⟩:Truck)
 else
 some t
def free:Truck→Bool→Option Truck:=ij (fun t fails=>O3 cH t fails)
def Lf(it:It Bool)(n:Int)(low:Int)(high:Int):Option Bool:=
 bif (decide (low≤n))then
 some (decide (n≤high))
 else
 some false
def Ph:Int→Int→Int→Option Bool:=ij (fun n low high=>Lf cH n low high)
theorem JC(n:Int)(low:Int)(high:Int):Ph n low high=Lf cH n low high:=by unfold Ph;rw[bT]
def R6:du ao:=⟨⟨15,[],[],[],[],[],[],[],[],[],[],[],[],true⟩,[]⟩
theorem Tp(it:It Bool)(n:Int)(low:Int)(high:Int):fp (ts:=[.bool]) it R6 (aU Tryd.f64) Tryd.f64.results.toList (bY [.int .i64, .int .i64, .int .i64] (n,low,high,()))=Lf it n low high:=by kernel_rfl
def Q6:cv ao.toSeat:=df ao.toSeat 64 [.int .i64, .int .i64, .int .i64] [.bool] true (fun a=>Ph a.1 a.2.1 a.2.2.1) (fun a x hx h h' =>bF (Z:=ao) (ats:=[.int .i64, .int .i64, .int .i64]) (ts:=[.bool]) (E:=R6) (fn:=Tryd.f64) (c:=aU Tryd.f64) Tryd.func64 (by kernel_rfl) (by kernel_rfl) (by kernel_rfl) (by kernel_rfl) rfl ((Tp cH a.1 a.2.1 a.2.2.1).trans ((JC a.1 a.2.1 a.2.2.1).symm.trans hx)) h h') (fun _ x=>rfl)
def m7(it:It Int)(r:cF)(metre:Int):Option Int:=
 bif (r.Truck.Way==2)then
 some (bG (r.length-metre))
 else
 some metre
def iW:cF→Int→Option Int:=ij (fun r metre=>m7 cH r metre)
theorem sf(r:cF)(metre:Int):iW r metre=m7 cH r metre:=by unfold iW;rw[bT]
def OY:du ao:=⟨⟨14,[],[],[],[],[],[],[],[],[],[],[],[],true⟩,[]⟩
theorem Rm(it:It Int)(r:cF)(metre:Int):fp (ts:=[.int .i64]) it OY (aU Tryd.f107) Tryd.f107.results.toList (bY [.cF, .int .i64] (r,metre,()))=m7 it r metre:=by kernel_rfl
def L6:cv ao.toSeat:=df ao.toSeat 107 [.cF, .int .i64] [.int .i64] true (fun a=>iW a.1 a.2.1) (fun a x hx h h' =>bF (Z:=ao) (ats:=[.cF, .int .i64]) (ts:=[.int .i64]) (E:=OY) (fn:=Tryd.f107) (c:=aU Tryd.f107) Tryd.func107 (by kernel_rfl) (by kernel_rfl) (by kernel_rfl) (by kernel_rfl) rfl ((Rm cH a.1 a.2.1).trans ((sf a.1 a.2.1).symm.trans hx)) h h') (fun _ x=>rfl)
def G6(it:It Int)(c:Convoy)(t:Truck)(h:Hold):Option Int:=
 bif (t.Way==2)then
 some (bG (c.Length-h.At))
 else
 some h.At
def BP:Convoy→Truck→Hold→Option Int:=ij (fun c t h=>G6 cH c t h)
def Iy(t:Truck)(c:Convoy)(gone:Int)(minute:Int)(i:Int)(kn_:Int→Option Int):Option Int:=
 bif (decide (i<(t.Holds.length:Int)))then
 aP (decide (0≤i)&&decide (i<(t.Holds.length:Int)))<|
 (BP c t (t.Holds.getD i.toNat dB)).bind fun r=>
 bif (decide (r≥gone))then
 aP (decide (0≤i)&&decide (i<(t.Holds.length:Int)))<|
 bif (decide ((t.Holds.getD i.toNat dB).Until>minute))then
 aP (decide (0≤i)&&decide (i<(t.Holds.length:Int)))<|
 (BP c t (t.Holds.getD i.toNat dB)).bind fun r2=>
 some r2
 else
 kn_ (bG (i+1))
 else
 kn_ (bG (i+1))
 else
 some c.Length
def MQ(it:It Int)(c:Convoy)(t:Truck)(gone:Int)(minute:Int):Option Int:=
 it _ (fun(v_0:(Unit×Unit×Int×Unit)×(Unit)) kn=>Iy t c gone minute v_0.1.2.2.1 (fun y0=>kn (((),(),y0,()),(())))) (((),(),0,()),(()))
def Qa:Convoy→Truck→Int→Int→Option Int:=ij (fun c t gone minute=>MQ cH c t gone minute)
def PE(it:It Int)(c:Convoy)(t:Truck)(gone:Int)(minute:Int)(metres:Int):Option Int:=
 (Qa c t gone minute).bind fun r=>
 some (min (bG (gone+metres)) r)
def Next:Convoy→Truck→Int→Int→Int→Option Int:=ij (fun c t gone minute metres=>PE cH c t gone minute metres)
def JY(r:cF)(minute:Int)(x11:Int)(kn_:Int→Option Int):Option Int:=
 bif (decide (x11<(r.Truck.Holds.length:Int)))then
 aP (decide (0≤x11)&&decide (x11<(r.Truck.Holds.length:Int)))<|
 bif (decide ((r.Truck.Holds.getD x11.toNat dB).Until>minute))then
 (iW r ((r.Truck.Holds.getD x11.toNat dB).At)).bind fun r2=>
 some r2
 else
 kn_ (bG (x11+1))
 else
 some r.length
def Dp(it:It Int)(r:cF)(minute:Int):Option Int:=
 it _ (fun(v_0:(Unit×Int×Unit)×(Unit)) kn=>JY r minute v_0.1.2.1 (fun y0=>kn (((),y0,()),(())))) (((),0,()),(()))
def x6:cF→Int→Option Int:=ij (fun r minute=>Dp cH r minute)
theorem By(r:cF)(minute:Int):x6 r minute=Dp cH r minute:=by unfold x6;rw[bT]
def PA:du ao:=⟨⟨26,[L6],[],[],[],[],[],[],[],[],[],[],[],true⟩,[(2,⟨⟨[(2, .bx 2 0),(11, .v (.int .i64))],[]⟩,[1,9,10],[2],[]⟩)]⟩
theorem RI(it:It Int)(r:cF)(minute:Int):fp (ts:=[.int .i64]) it PA (aU Tryd.f116) Tryd.f116.results.toList (bY [.cF, .int .i64] (r,minute,()))=Dp it r minute:=by kernel_rfl
def Mj:cv ao.toSeat:=df ao.toSeat 116 [.cF, .int .i64] [.int .i64] true (fun a=>x6 a.1 a.2.1) (fun a x hx h h' =>bF (Z:=ao) (ats:=[.cF, .int .i64]) (ts:=[.int .i64]) (E:=PA) (fn:=Tryd.f116) (c:=aU Tryd.f116) Tryd.func116 (by kernel_rfl) (by kernel_rfl) (by kernel_rfl) (by kernel_rfl) rfl ((RI cH a.1 a.2.1).trans ((By a.1 a.2.1).symm.trans hx)) h h') (fun _ x=>rfl)
def pn(it:It Int)(t:bP):Option Int:=
 some (bG ((bG (t.ride.Truck.Start+(t.gone.length:Int)))-1))
def km:bP→Option Int:=ij (fun t=>pn cH t)
theorem tT(t:bP):km t=pn cH t:=by unfold km;rw[bT]
def SA:du ao:=⟨⟨12,[],[],[],[],[],[],[],[],[],[],[],[],true⟩,[]⟩
theorem TK(it:It Int)(t:bP):fp (ts:=[.int .i64]) it SA (aU Tryd.f98) Tryd.f98.results.toList (bY [.bP] (t,()))=pn it t:=by kernel_rfl
def O2:cv ao.toSeat:=df ao.toSeat 98 [.bP] [.int .i64] true (fun a=>km a.1) (fun a x hx h h' =>bF (Z:=ao) (ats:=[.bP]) (ts:=[.int .i64]) (E:=SA) (fn:=Tryd.f98) (c:=aU Tryd.f98) Tryd.func98 (by kernel_rfl) (by kernel_rfl) (by kernel_rfl) (by kernel_rfl) rfl ((TK cH a.1).trans ((tT a.1).symm.trans hx)) h h') (fun _ x=>rfl)
def rY(it:It Span)(t:bP)(minute:Int):Option Span:=
 bif (decide ((min (bG (minute-t.ride.Truck.Start)) (bG ((t.gone.length:Int)-1)))<0))then
 some (⟨0,0⟩:Span)
 else
 aP (decide (0≤(min (bG (minute-t.ride.Truck.Start)) (bG ((t.gone.length:Int)-1))))&&decide ((min (bG (minute-t.ride.Truck.Start)) (bG ((t.gone.length:Int)-1)))<(t.gone.length:Int)))<|
 some (t.gone.getD (min (bG (minute-t.ride.Truck.Start)) (bG ((t.gone.length:Int)-1))).toNat iw)
def rb:bP→Int→Option Span:=ij (fun t minute=>rY cH t minute)
theorem vd(t:bP)(minute:Int):rb t minute=rY cH t minute:=by unfold rb;rw[bT]
def R8:du ao:=⟨⟨25,[],[],[],[],[],[],[],[],[],[],[],[],true⟩,[]⟩
theorem TI(it:It Span)(t:bP)(minute:Int):fp (ts:=[.Span]) it R8 (aU Tryd.f87) Tryd.f87.results.toList (bY [.bP, .int .i64] (t,minute,()))=rY it t minute:=by kernel_rfl
def Rt:cv ao.toSeat:=df ao.toSeat 87 [.bP, .int .i64] [.Span] true (fun a=>rb a.1 a.2.1) (fun a x hx h h' =>bF (Z:=ao) (ats:=[.bP, .int .i64]) (ts:=[.Span]) (E:=R8) (fn:=Tryd.f87) (c:=aU Tryd.f87) Tryd.func87 (by kernel_rfl) (by kernel_rfl) (by kernel_rfl) (by kernel_rfl) rfl ((TI cH a.1 a.2.1).trans ((vd a.1 a.2.1).symm.trans hx)) h h') (fun _ x=>rfl)
def qq(it:It Span)(t:bP)(gone:Span):Option Span:=
 (iW t.ride gone.Lo).bind fun r=>
 (iW t.ride gone.Hi).bind fun r2=>
 some (⟨(min r r2),(max r r2)⟩:Span)
def j3:bP→Span→Option Span:=ij (fun t gone=>qq cH t gone)
theorem sa(t:bP)(gone:Span):j3 t gone=qq cH t gone:=by unfold j3;rw[bT]
def R4:du ao:=⟨⟨24,[L6],[],[],[],[],[],[],[],[],[],[],[],true⟩,[]⟩
theorem TB(it:It Span)(t:bP)(gone:Span):fp (ts:=[.Span]) it R4 (aU Tryd.f86) Tryd.f86.results.toList (bY [.bP, .Span] (t,gone,()))=qq it t gone:=by kernel_rfl
def Q3:cv ao.toSeat:=df ao.toSeat 86 [.bP, .Span] [.Span] true (fun a=>j3 a.1 a.2.1) (fun a x hx h h' =>bF (Z:=ao) (ats:=[.bP, .Span]) (ts:=[.Span]) (E:=R4) (fn:=Tryd.f86) (c:=aU Tryd.f86) Tryd.func86 (by kernel_rfl) (by kernel_rfl) (by kernel_rfl) (by kernel_rfl) rfl ((TB cH a.1 a.2.1).trans ((sa a.1 a.2.1).symm.trans hx)) h h') (fun _ x=>rfl)
def qj(it:It (Span×Int))(t:bP)(minute:Int):Option (Span×Int):=
 bif (decide (minute<t.ride.Truck.Start))then
 some ((⟨0,0⟩:Span),2)
 else
 (rb t minute).bind fun r=>
 (x6 t.ride minute).bind fun r2=>
 bif (decide (r.Hi<r2))then
 (j3 t r).bind fun r3=>
 some (r3,1)
 else
 bif (decide (r.Lo≥r2))then
 some ((⟨0,0⟩:Span),2)
 else
 (j3 t (⟨r.Lo,(bG (r2-1))⟩:Span)).bind fun r4=>
 some (r4,3)
def j5:bP→Int→Option (Span×Int):=ij (fun t minute=>qj cH t minute)
theorem rS(t:bP)(minute:Int):j5 t minute=qj cH t minute:=by unfold j5;rw[bT]
def Se:du ao:=⟨⟨43,[Rt,Mj,Q3],[],[],[],[],[],[],[],[],[],[],[],true⟩,[]⟩
theorem To(it:It (Span×Int))(t:bP)(minute:Int):fp (ts:=[.Span, .int .i64]) it Se (aU Tryd.f85) Tryd.f85.results.toList (bY [.bP, .int .i64] (t,minute,()))=qj it t minute:=by kernel_rfl
def Rq:cv ao.toSeat:=df ao.toSeat 85 [.bP, .int .i64] [.Span, .int .i64] true (fun a=>j5 a.1 a.2.1) (fun a x hx h h' =>bF (Z:=ao) (ats:=[.bP, .int .i64]) (ts:=[.Span, .int .i64]) (E:=Se) (fn:=Tryd.f85) (c:=aU Tryd.f85) Tryd.func85 (by kernel_rfl) (by kernel_rfl) (by kernel_rfl) (by kernel_rfl) rfl ((To cH a.1 a.2.1).trans ((rS a.1 a.2.1).symm.trans hx)) h h') (fun _ x=>rfl)
def Eg(it:It (Int×Int×Bool))(n:bC)(a:bP)(b:bP)(minute:Int):Option (Int×Int×Bool):=
 (j5 a minute).bind fun r=>
 (j5 b minute).bind fun r2=>
 bif (r.2==2)then
 some (0,0,false)
 else
 bif (r2.2==2)then
 some (0,0,false)
 else
 bif (decide ((max r.1.Lo (bG ((bG (r2.1.Lo-n.gap))+1)))≤r.1.Hi))then
 some ((max r.1.Lo (bG ((bG (r2.1.Lo-n.gap))+1))),(max r2.1.Lo (bG ((bG ((max r.1.Lo (bG ((bG (r2.1.Lo-n.gap))+1)))-n.gap))+1))),(decide ((max r2.1.Lo (bG ((bG ((max r.1.Lo (bG ((bG (r2.1.Lo-n.gap))+1)))-n.gap))+1)))≤r2.1.Hi)))
 else
 some ((max r.1.Lo (bG ((bG (r2.1.Lo-n.gap))+1))),(max r2.1.Lo (bG ((bG ((max r.1.Lo (bG ((bG (r2.1.Lo-n.gap))+1)))-n.gap))+1))),false)
def ui:bC→bP→bP→Int→Option (Int×Int×Bool):=ij (fun n a b minute=>Eg cH n a b minute)
theorem CM(n:bC)(a:bP)(b:bP)(minute:Int):ui n a b minute=Eg cH n a b minute:=by unfold ui;rw[bT]
def PB:du ao:=⟨⟨62,[Rq],[],[],[],[],[],[],[],[],[],[],[],true⟩,[]⟩
theorem QW(it:It (Int×Int×Bool))(n:bC)(a:bP)(b:bP)(minute:Int):fp (ts:=[.int .i64, .int .i64, .bool]) it PB (aU Tryd.f121) Tryd.f121.results.toList (bY [.bC, .bP, .bP, .int .i64] (n,a,b,minute,()))=Eg it n a b minute:=by kernel_rfl
def Pz:cv ao.toSeat:=df ao.toSeat 121 [.bC, .bP, .bP, .int .i64] [.int .i64, .int .i64, .bool] true (fun a=>ui a.1 a.2.1 a.2.2.1 a.2.2.2.1) (fun a x hx h h' =>bF (Z:=ao) (ats:=[.bC, .bP, .bP, .int .i64]) (ts:=[.int .i64, .int .i64, .bool]) (E:=PB) (fn:=Tryd.f121) (c:=aU Tryd.f121) Tryd.func121 (by kernel_rfl) (by kernel_rfl) (by kernel_rfl) (by kernel_rfl) rfl ((QW cH a.1 a.2.1 a.2.2.1 a.2.2.2.1).trans ((CM a.1 a.2.1 a.2.2.1 a.2.2.2.1).symm.trans hx)) h h') (fun _ x=>rfl)
def Dg(n:bC)(a:bq)(b:bq)(minute:Int)(x16:Int)(m_Minute:Int)(m_First:Int)(m_Second:Int)(m_FirstFails:Bool)(m_SecondFails:Bool)(m_At:Int)(m_Other:Int)(kn_:Int→Int→Int→Int→Bool→Bool→Int→Int→Option (bd×Bool)):Option (bd×Bool):=
 bif (decide (x16<4))then
 bif x16==0 then
 bif (decide ((bG (0+0))>n.fails))then
 kn_ (bG (x16+1)) m_Minute m_First m_Second m_FirstFails m_SecondFails m_At m_Other
 else
 (ui n a.a b.a minute).bind fun r=>
 bif r.2.2 then
 some ((⟨minute,0,0,false,false,r.1,r.2.1⟩:bd),true)
 else
 kn_ (bG (x16+1)) m_Minute m_First m_Second m_FirstFails m_SecondFails m_At m_Other
 else
 bif x16==1 then
 bif (decide ((bG (1+0))>n.fails))then
 kn_ (bG (x16+1)) m_Minute m_First m_Second m_FirstFails m_SecondFails m_At m_Other
 else
 (ui n a.b b.a minute).bind fun r2=>
 bif r2.2.2 then
 some ((⟨minute,0,0,true,false,r2.1,r2.2.1⟩:bd),true)
 else
 kn_ (bG (x16+1)) m_Minute m_First m_Second m_FirstFails m_SecondFails m_At m_Other
 else
 bif x16==2 then
 bif (decide ((bG (0+1))>n.fails))then
 kn_ (bG (x16+1)) m_Minute m_First m_Second m_FirstFails m_SecondFails m_At m_Other
 else
 (ui n a.a b.b minute).bind fun r3=>
 bif r3.2.2 then
 some ((⟨minute,0,0,false,true,r3.1,r3.2.1⟩:bd),true)
 else
 kn_ (bG (x16+1)) m_Minute m_First m_Second m_FirstFails m_SecondFails m_At m_Other
 else
 bif x16==3 then
 bif (decide ((bG (1+1))>n.fails))then
 kn_ (bG (x16+1)) m_Minute m_First m_Second m_FirstFails m_SecondFails m_At m_Other
 else
 (ui n a.b b.b minute).bind fun r4=>
 bif r4.2.2 then
 some ((⟨minute,0,0,true,true,r4.1,r4.2.1⟩:bd),true)
 else
 kn_ (bG (x16+1)) m_Minute m_First m_Second m_FirstFails m_SecondFails m_At m_Other
 else
 none
 else
 some ((⟨0,0,0,false,false,0,0⟩:bd),false)
def va(it:It (bd×Bool))(n:bC)(a:bq)(b:bq)(minute:Int):Option (bd×Bool):=
 it _ (fun(v_0:(Unit×Unit×Unit×Unit×Int×Unit)×((Int×Int×Int×Bool×Bool×Int×Int×Unit)×Unit)) kn=>Dg n a b minute v_0.1.2.2.2.2.1 v_0.2.1.1 v_0.2.1.2.1 v_0.2.1.2.2.1 v_0.2.1.2.2.2.1 v_0.2.1.2.2.2.2.1 v_0.2.1.2.2.2.2.2.1 v_0.2.1.2.2.2.2.2.2.1 (fun y0 y1 y2 y3 y4 y5 y6 y7=>kn (((),(),(),(),y0,()),((y1,y2,y3,y4,y5,y6,y7,()),())))) (((),(),(),(),0,()),((0,0,0,false,false,0,0,()),()))
def qZ:bC→bq→bq→Int→Option (bd×Bool):=ij (fun n a b minute=>va cH n a b minute)
theorem xk(n:bC)(a:bq)(b:bq)(minute:Int):qZ n a b minute=va cH n a b minute:=by unfold qZ;rw[bT]
def Pq:du ao:=⟨⟨55,[Pz],[],[],[],[],[],[],[],[],[],[],[],true⟩,[(2,⟨⟨[(4, .bx 4 0),(5, .bx 5 0),(6, .bx 6 0),(8, .bx 8 0),(16, .v (.int .i64))],[(8,[.v (.int .i64), .v (.int .i64), .v (.int .i64), .v .bool, .v .bool, .v (.int .i64), .v (.int .i64)])]⟩,[3,15],[4,5,6],[]⟩)]⟩
theorem Q8(it:It (bd×Bool))(n:bC)(a:bq)(b:bq)(minute:Int):fp (ts:=[.bd, .bool]) it Pq (aU Tryd.f109) Tryd.f109.results.toList (bY [.bC, .bq, .bq, .int .i64] (n,a,b,minute,()))=va it n a b minute:=by kernel_rfl
def O5:cv ao.toSeat:=df ao.toSeat 109 [.bC, .bq, .bq, .int .i64] [.bd, .bool] true (fun a=>qZ a.1 a.2.1 a.2.2.1 a.2.2.2.1) (fun a x hx h h' =>bF (Z:=ao) (ats:=[.bC, .bq, .bq, .int .i64]) (ts:=[.bd, .bool]) (E:=Pq) (fn:=Tryd.f109) (c:=aU Tryd.f109) Tryd.func109 (by kernel_rfl) (by kernel_rfl) (by kernel_rfl) (by kernel_rfl) rfl ((Q8 cH a.1 a.2.1 a.2.2.1 a.2.2.2.1).trans ((xk a.1 a.2.1 a.2.2.1 a.2.2.2.1).symm.trans hx)) h h') (fun _ x=>rfl)
def BS(a0:cF)(t:Int)(gone_Lo:Int)(gone_Hi:Int)(kn_:Int→Int→Int→Option (List (Int×Span×Unit))):Option (List (Int×Span×Unit)):=
 Bw (t,(⟨gone_Lo,gone_Hi⟩:Span),())
 (some [])
 (bif (decide (gone_Lo<a0.length))then
 (x6 a0 t).bind fun r=>
 kn_ (bG (t+1)) (min (bG (gone_Lo+a0.Truck.Pace.Lo)) r) (min (bG (gone_Hi+a0.Truck.Pace.Hi)) r)
 else
 some [])
def tc(it:It (List (Int×Span×Unit)))(a0:cF):Option (List (Int×Span×Unit)):=
 it _ (fun(v_0:(Unit×Unit×Int×Unit)×((Int×Int×Unit)×Unit)) kn=>BS a0 v_0.1.2.2.1 v_0.2.1.1 v_0.2.1.2.1 (fun y0 y1 y2=>kn (((),(),y0,()),((y1,y2,()),())))) (((),(),a0.Truck.Start,()),((0,0,()),()))
def nL:cF→Option (List (Int×Span×Unit)):=ij (fun a0=>tc cH a0)
theorem um(a0:cF):nL a0=tc cH a0:=by unfold nL;rw[bT]
def Pm:du ao:=⟨⟨44,[Mj],[],[],[],[],[],[],[],[],[],[],[YL],true⟩,[(2,⟨⟨[(0, .yl YL),(3, .bx 3 0),(4, .v (.int .i64))],[(3,[.v (.int .i64), .v (.int .i64)])]⟩,[1],[],[]⟩)]⟩
theorem RE(it:It (List (Int×Span×Unit)))(a0:cF):JI [.int .i64, .Span] it Pm (aU Tryd.f125) (bY [.ptr .cF] (a0,()))=tc it a0:=by kernel_rfl
def PR:qk ao.toSeat:=HK ao.toSeat 125 [.ptr .cF] [.int .i64, .Span] rfl (fun a=>nL a.1) (fun a x hx h=>Bm (Z:=ao) (cts:=[.ptr .cF]) (E:=Pm) (fn:=Tryd.f125) (c:=aU Tryd.f125) Tryd.func125 (by kernel_rfl) (by kernel_rfl) (by kernel_rfl) (by kernel_rfl) rfl rfl ((RE cH a.1).trans ((um a.1).symm.trans hx)) h)
def vQ(it:It cF)(r:cF):Option cF:=
 some r
def uW:cF→Option cF:=ij (fun r=>vQ cH r)
theorem vw(r:cF):uW r=vQ cH r:=by unfold uW;rw[bT]
def Qp:du ao:=⟨⟨4,[],[],[],[],[],[],[],[],[],[],[],[],true⟩,[]⟩
theorem RX(it:It cF)(r:cF):IN 125 .cF it Qp (aU Tryd.f115) Tryd.f115.results.toList (bY [.cF] (r,()))=vQ it r:=by kernel_rfl
def Qj:cv ao.toSeat:=df ao.toSeat 115 [.cF] [.clo 125 .cF] false (fun a=>uW a.1) (fun a x hx h h' =>zT (Z:=ao) (ats:=[.cF]) (E:=Qp) (fn:=Tryd.f115) (c:=aU Tryd.f115) Tryd.func115 (by kernel_rfl) (by kernel_rfl) (by kernel_rfl) (by kernel_rfl) rfl ((RX cH a.1).trans ((vw a.1).symm.trans hx)) h h') (fun h=>nomatch h)
def DV(t_ride_Truck_Way:Int)(t_ride_Truck_Start:Int)(t_ride_Truck_Pace_Lo:Int)(t_ride_Truck_Pace_Hi:Int)(t_ride_Truck_Holds:List Hold)(t_ride_length:Int)(t_gone:List Span):Option bP:=
 some (⟨⟨⟨t_ride_Truck_Way,t_ride_Truck_Start,⟨t_ride_Truck_Pace_Lo,t_ride_Truck_Pace_Hi⟩,t_ride_Truck_Holds⟩,t_ride_length⟩,t_gone⟩:bP)
def Dh(t_ride_Truck_Way:Int)(t_ride_Truck_Start:Int)(t_ride_Truck_Pace_Lo:Int)(t_ride_Truck_Pace_Hi:Int)(t_ride_Truck_Holds:List Hold)(t_ride_length:Int)(t_gone:List Span)(x10:Int)(x11:Span)(kn_:Int→Int→Int→Int→(List Hold)→Int→(List Span)→Option bP):Option bP:=
 aP (fV (t_gone.length+([x11]:List Span).length) 16)<|
 kn_ t_ride_Truck_Way t_ride_Truck_Start t_ride_Truck_Pace_Lo t_ride_Truck_Pace_Hi t_ride_Truck_Holds t_ride_length (t_gone++([x11]:List Span))
def vZ(it:It bP)(r:cF):Option bP:=
 (uW r).bind fun r2=>
 (nL r2).bind fun items=>it _ (fun(v_0:((Unit×Unit×Unit)×((Int×Int×Int×Int×(List Hold)×Int×(List Span)×Unit)×Unit))×List (Int×Span×Unit)) kn=>match v_0.2 with
 |[]=>DV v_0.1.2.1.1 v_0.1.2.1.2.1 v_0.1.2.1.2.2.1 v_0.1.2.1.2.2.2.1 v_0.1.2.1.2.2.2.2.1 v_0.1.2.1.2.2.2.2.2.1 v_0.1.2.1.2.2.2.2.2.2.1
 |a::l=>Dh v_0.1.2.1.1 v_0.1.2.1.2.1 v_0.1.2.1.2.2.1 v_0.1.2.1.2.2.2.1 v_0.1.2.1.2.2.2.2.1 v_0.1.2.1.2.2.2.2.2.1 v_0.1.2.1.2.2.2.2.2.2.1 a.1 a.2.1 (fun y0 y1 y2 y3 y4 y5 y6=>kn ((((),(),()),((y0,y1,y2,y3,y4,y5,y6,()),())),l))) ((((),(),()),((r.Truck.Way,r.Truck.Start,r.Truck.Pace.Lo,r.Truck.Pace.Hi,r.Truck.Holds,r.length,[],()),())),items)
def pB:cF→Option bP:=ij (fun r=>vZ cH r)
theorem vJ(r:cF):pB r=vZ cH r:=by unfold pB;rw[bT]
def SD:du ao:=⟨⟨19,[Qj],[],[],[],[PR],[],[],[],[],[],[15],[],true⟩,[(3,⟨⟨[(2, .bx 2 0),(3, .bx 3 0)],[(3,[.v (.int .i64), .v (.int .i64), .v (.int .i64), .v (.int .i64), .v (.sl .Hold), .v (.int .i64), .os 16 47 .Span])]⟩,[9],[2],[]⟩)]⟩
theorem TA(it:It bP)(r:cF):fp (ts:=[.bP]) it SD (aU Tryd.f83) Tryd.f83.results.toList (bY [.cF] (r,()))=vZ it r:=by kernel_rfl
def Q7:cv ao.toSeat:=df ao.toSeat 83 [.cF] [.bP] false (fun a=>pB a.1) (fun a x hx h h' =>bF (Z:=ao) (ats:=[.cF]) (ts:=[.bP]) (E:=SD) (fn:=Tryd.f83) (c:=aU Tryd.f83) Tryd.func83 (by kernel_rfl) (by kernel_rfl) (by kernel_rfl) (by kernel_rfl) rfl ((TA cH a.1).trans ((vJ a.1).symm.trans hx)) h h') (fun h=>nomatch h)
def uN(it:It cF)(c:Convoy)(truck:Int)(fails:Bool):Option cF:=
 aP (decide (0≤truck)&&decide (truck<(c.Trucks.length:Int)))<|
 bif fails then
 some (⟨⟨(c.Trucks.getD truck.toNat aK).Way,(c.Trucks.getD truck.toNat aK).Start,(c.Trucks.getD truck.toNat aK).Pace,[]⟩,c.Length⟩:cF)
 else
 some (⟨(c.Trucks.getD truck.toNat aK),c.Length⟩:cF)
def ti:Convoy→Int→Bool→Option cF:=ij (fun c truck fails=>uN cH c truck fails)
theorem ym(c:Convoy)(truck:Int)(fails:Bool):ti c truck fails=uN cH c truck fails:=by unfold ti;rw[bT]
def Sk:du ao:=⟨⟨20,[],[],[],[],[],[],[],[],[],[],[],[],true⟩,[]⟩
theorem TG(it:It cF)(c:Convoy)(truck:Int)(fails:Bool):fp (ts:=[.cF]) it Sk (aU Tryd.f84) Tryd.f84.results.toList (bY [.Convoy, .int .i64, .bool] (c,truck,fails,()))=uN it c truck fails:=by kernel_rfl
def RM:cv ao.toSeat:=df ao.toSeat 84 [.Convoy, .int .i64, .bool] [.cF] false (fun a=>ti a.1 a.2.1 a.2.2.1) (fun a x hx h h' =>bF (Z:=ao) (ats:=[.Convoy, .int .i64, .bool]) (ts:=[.cF]) (E:=Sk) (fn:=Tryd.f84) (c:=aU Tryd.f84) Tryd.func84 (by kernel_rfl) (by kernel_rfl) (by kernel_rfl) (by kernel_rfl) rfl ((TG cH a.1 a.2.1 a.2.2.1).trans ((ym a.1 a.2.1 a.2.2.1).symm.trans hx)) h h') (fun h=>nomatch h)
def Ee(c:Convoy)(out:List bq)(x8:Int)(kn_:(List bq)→Int→Option (List bq)):Option (List bq):=
 bif (decide (x8<(c.Trucks.length:Int)))then
 (ti c x8 false).bind fun r=>
 (pB r).bind fun r2=>
 (ti c x8 true).bind fun r3=>
 (pB r3).bind fun r4=>
 aP (fV (out.length+([(⟨r2,r4⟩:bq)]:List bq).length) 176)<|
 kn_ (out++([(⟨r2,r4⟩:bq)]:List bq)) (bG (x8+1))
 else
 some out
def wS(it:It (List bq))(c:Convoy):Option (List bq):=
 it _ (fun(v_0:(Unit×(List bq)×Int×Unit)×(Unit)) kn=>Ee c v_0.1.2.1 v_0.1.2.2.1 (fun y0 y1=>kn (((),y0,y1,()),(())))) (((),([]:List bq),0,()),(()))
def sC:Convoy→Option (List bq):=ij (fun c=>wS cH c)
theorem vY(c:Convoy):sC c=wS cH c:=by unfold sC;rw[bT]
def SO:du ao:=⟨⟨25,[RM,Q7],[],[],[],[],[],[],[],[],[],[21],[],true⟩,[(3,⟨⟨[(1, .bx 1 0),(3, .os 3 132 .bq),(8, .v (.int .i64))],[]⟩,[7],[1],[]⟩)]⟩
theorem Tq(it:It (List bq))(c:Convoy):fp (ts:=[.sl .bq]) it SO (aU Tryd.f89) Tryd.f89.results.toList (bY [.Convoy] (c,()))=wS it c:=by kernel_rfl
def QN:cv ao.toSeat:=df ao.toSeat 89 [.Convoy] [.sl .bq] false (fun a=>sC a.1) (fun a x hx h h' =>bF (Z:=ao) (ats:=[.Convoy]) (ts:=[.sl .bq]) (E:=SO) (fn:=Tryd.f89) (c:=aU Tryd.f89) Tryd.func89 (by kernel_rfl) (by kernel_rfl) (by kernel_rfl) (by kernel_rfl) rfl ((Tq cH a.1).trans ((vY a.1).symm.trans hx)) h h') (fun h=>nomatch h)
def Kz(a:List Int)(b:List Int)(i:Int)(kn_:Int→Option Bool):Option Bool:=
 bif (decide (i<(a.length:Int)))then
 aP (decide (0≤i)&&decide (i<(a.length:Int)))<|
 aP (decide (0≤i)&&decide (i<(b.length:Int)))<|
 bif ((a.getD i.toNat 0) !=(b.getD i.toNat 0))then
 some false
 else
 kn_ (bG (i+1))
 else
 some true
def Ig(it:It Bool)(a:List Int)(b:List Int):Option Bool:=
 bif ((a.length:Int) !=(b.length:Int))then
 some false
 else
 it _ (fun(v_0:(Int×Unit)×(Unit)) kn=>Kz a b v_0.1.1 (fun y0=>kn ((y0,()),(())))) ((0,()),(()))
def xJ:(List Int)→(List Int)→Option Bool:=ij (fun a b=>Ig cH a b)
theorem F5(a:List Int)(b:List Int):xJ a b=Ig cH a b:=by unfold xJ;rw[bT]
def SF:du ao:=⟨⟨26,[],[],[],[],[],[],[],[],[],[],[],[],true⟩,[(4,⟨⟨[(5, .v (.int .i64))],[]⟩,[0,1],[],[]⟩)]⟩
theorem TL(it:It Bool)(a:List Int)(b:List Int):fp (ts:=[.bool]) it SF (aU Tryd.f57) Tryd.f57.results.toList (bY [.sl (.int .i64), .sl (.int .i64)] (a,b,()))=Ig it a b:=by kernel_rfl
def RW:cv ao.toSeat:=df ao.toSeat 57 [.sl (.int .i64), .sl (.int .i64)] [.bool] true (fun a=>xJ a.1 a.2.1) (fun a x hx h h' =>bF (Z:=ao) (ats:=[.sl (.int .i64), .sl (.int .i64)]) (ts:=[.bool]) (E:=SF) (fn:=Tryd.f57) (c:=aU Tryd.f57) Tryd.func57 (by kernel_rfl) (by kernel_rfl) (by kernel_rfl) (by kernel_rfl) rfl ((TL cH a.1 a.2.1).trans ((F5 a.1 a.2.1).symm.trans hx)) h h') (fun _ x=>rfl)
def Nv(it:It (List Int))(l:List Int):Option (List Int):=
 aP (fV (([]:List Int).length+l.length) 8)<|
 some (([]:List Int)++l)
def Own:(List Int)→Option (List Int):=ij (fun l=>Nv cH l)
theorem Jj(l:List Int):Own l=Nv cH l:=by unfold Own;rw[bT]
def SQ:du ao:=⟨⟨6,[],[],[],[],[],[],[],[],[],[],[],[],true⟩,[]⟩
theorem TD(it:It (List Int))(l:List Int):fp (ts:=[.sl (.int .i64)]) it SQ (aU Tryd.f59) Tryd.f59.results.toList (bY [.sl (.int .i64)] (l,()))=Nv it l:=by kernel_rfl
def RT:cv ao.toSeat:=df ao.toSeat 59 [.sl (.int .i64)] [.sl (.int .i64)] false (fun a=>Own a.1) (fun a x hx h h' =>bF (Z:=ao) (ats:=[.sl (.int .i64)]) (ts:=[.sl (.int .i64)]) (E:=SQ) (fn:=Tryd.f59) (c:=aU Tryd.f59) Tryd.func59 (by kernel_rfl) (by kernel_rfl) (by kernel_rfl) (by kernel_rfl) rfl ((TD cH a.1).trans ((Jj a.1).symm.trans hx)) h h') (fun h=>nomatch h)
def JE(gone:List Int)(length:Int)(m:Int)(kn_:Int→Option Int):Option Int:=
 bif (decide (m<(gone.length:Int)))then
 aP (decide (0≤m)&&decide (m<(gone.length:Int)))<|
 bif (decide ((gone.getD m.toNat 0)≥length))then
 some m
 else
 kn_ (bG (m+1))
 else
 some (bG ((gone.length:Int)-1))
def MC(it:It Int)(gone:List Int)(length:Int):Option Int:=
 it _ (fun(v_0:(Int×Unit)×(Unit)) kn=>JE gone length v_0.1.1 (fun y0=>kn ((y0,()),(())))) ((0,()),(()))
def first:(List Int)→Int→Option Int:=ij (fun gone length=>MC cH gone length)
def H2(a:bq)(b:bq)(n:bC)(m:Int)(kn_:Int→Option Bool):Option Bool:=
 (km a.a).bind fun r=>
 (km b.a).bind fun r2=>
 bif (decide (m≤(min r r2)))then
 (qZ n a b m).bind fun r3=>
 bif r3.2 then
 some false
 else
 kn_ (bG (m+1))
 else
 some true
def D4(it:It Bool)(n:bC)(a:bq)(b:bq):Option Bool:=
 it _ (fun(v_0:(Unit×Unit×Int×Unit)×(Unit)) kn=>H2 a b n v_0.1.2.2.1 (fun y0=>kn (((),(),y0,()),(())))) (((),(),(max a.a.ride.Truck.Start b.a.ride.Truck.Start),()),(()))
def apart:bC→bq→bq→Option Bool:=ij (fun n a b=>D4 cH n a b)
theorem CD(n:bC)(a:bq)(b:bq):apart n a b=D4 cH n a b:=by unfold apart;rw[bT]
def Sx:du ao:=⟨⟨44,[O2,O5],[],[],[],[],[],[],[],[],[],[],[],true⟩,[(3,⟨⟨[(4, .bx 4 0),(5, .bx 5 0),(8, .v (.int .i64))],[]⟩,[7],[4,5],[]⟩)]⟩
theorem Tk(it:It Bool)(n:bC)(a:bq)(b:bq):fp (ts:=[.bool]) it Sx (aU Tryd.f92) Tryd.f92.results.toList (bY [.bC, .bq, .bq] (n,a,b,()))=D4 it n a b:=by kernel_rfl
def QM:cv ao.toSeat:=df ao.toSeat 92 [.bC, .bq, .bq] [.bool] true (fun a=>apart a.1 a.2.1 a.2.2.1) (fun a x hx h h' =>bF (Z:=ao) (ats:=[.bC, .bq, .bq]) (ts:=[.bool]) (E:=Sx) (fn:=Tryd.f92) (c:=aU Tryd.f92) Tryd.func92 (by kernel_rfl) (by kernel_rfl) (by kernel_rfl) (by kernel_rfl) rfl ((Tk cH a.1 a.2.1 a.2.2.1).trans ((CD a.1 a.2.1 a.2.2.1).symm.trans hx)) h h') (fun _ x=>rfl)
def s8(it:It Bool)(c:Convoy):Option Bool:=
 (ov c).bind fun r=>
 some (r.2==7)
def accepted:Convoy→Option Bool:=ij (fun c=>s8 cH c)
theorem tJ(c:Convoy):accepted c=s8 cH c:=by unfold accepted;rw[bT]
def So:du ao:=⟨⟨12,[QU],[],[],[],[],[],[],[],[],[],[],[],true⟩,[]⟩
theorem TC(it:It Bool)(c:Convoy):fp (ts:=[.bool]) it So (aU Tryd.f94) Tryd.f94.results.toList (bY [.Convoy] (c,()))=s8 it c:=by kernel_rfl
def Q9:cv ao.toSeat:=df ao.toSeat 94 [.Convoy] [.bool] true (fun a=>accepted a.1) (fun a x hx h h' =>bF (Z:=ao) (ats:=[.Convoy]) (ts:=[.bool]) (E:=So) (fn:=Tryd.f94) (c:=aU Tryd.f94) Tryd.func94 (by kernel_rfl) (by kernel_rfl) (by kernel_rfl) (by kernel_rfl) rfl ((TC cH a.1).trans ((tJ a.1).symm.trans hx)) h h') (fun _ x=>rfl)
def K9(trucks:Int)(starts:Int)(n:Int)(i:Int)(kn_:Int→Int→Option Int):Option Int:=
 bif (decide (i<trucks))then
 kn_ (bG (n*starts)) (bG (i+1))
 else
 some n
def IQ(it:It Int)(trucks:Int)(starts:Int):Option Int:=
 it _ (fun(v_0:(Int×Int×Unit)×(Unit)) kn=>K9 trucks starts v_0.1.1 v_0.1.2.1 (fun y0 y1=>kn ((y0,y1,()),(())))) ((1,0,()),(()))
def many:Int→Int→Option Int:=ij (fun trucks starts=>IQ cH trucks starts)
theorem Ga(trucks:Int)(starts:Int):many trucks starts=IQ cH trucks starts:=by unfold many;rw[bT]
def SL:du ao:=⟨⟨16,[],[],[],[],[],[],[],[],[],[],[],[],true⟩,[(3,⟨⟨[(5, .v (.int .i64)),(6, .v (.int .i64))],[]⟩,[0,1],[],[]⟩)]⟩
theorem Tn(it:It Int)(trucks:Int)(starts:Int):fp (ts:=[.int .i64]) it SL (aU Tryd.f58) Tryd.f58.results.toList (bY [.int .i64, .int .i64] (trucks,starts,()))=IQ it trucks starts:=by kernel_rfl
def RF:cv ao.toSeat:=df ao.toSeat 58 [.int .i64, .int .i64] [.int .i64] true (fun a=>many a.1 a.2.1) (fun a x hx h h' =>bF (Z:=ao) (ats:=[.int .i64, .int .i64]) (ts:=[.int .i64]) (E:=SL) (fn:=Tryd.f58) (c:=aU Tryd.f58) Tryd.func58 (by kernel_rfl) (by kernel_rfl) (by kernel_rfl) (by kernel_rfl) rfl ((Tn cH a.1 a.2.1).trans ((Ga a.1 a.2.1).symm.trans hx)) h h') (fun _ x=>rfl)
def oy(it:It Bool)(n:Int):Option Bool:=
 (Ph n 0 10000).bind fun r=>
 some (!r)
def kK:Int→Option Bool:=ij (fun n=>oy cH n)
theorem pX(n:Int):kK n=oy cH n:=by unfold kK;rw[bT]
def PZ:du ao:=⟨⟨6,[Q6],[],[],[],[],[],[],[],[],[],[],[],true⟩,[]⟩
theorem RQ(it:It Bool)(n:Int):fp (ts:=[.bool]) it PZ (aU Tryd.f101) Tryd.f101.results.toList (bY [.int .i64] (n,()))=oy it n:=by kernel_rfl
def P1:cv ao.toSeat:=df ao.toSeat 101 [.int .i64] [.bool] true (fun a=>kK a.1) (fun a x hx h h' =>bF (Z:=ao) (ats:=[.int .i64]) (ts:=[.bool]) (E:=PZ) (fn:=Tryd.f101) (c:=aU Tryd.f101) Tryd.func101 (by kernel_rfl) (by kernel_rfl) (by kernel_rfl) (by kernel_rfl) rfl ((RQ cH a.1).trans ((pX a.1).symm.trans hx)) h h') (fun _ x=>rfl)
end
end Go.Proofs.Plain04
namespace Go.Ab
open Go Go.RowKit
set_option linter.all false
def Ok{α:Type}(P:α→Prop)(x:Option α):Prop:=∃a,x=some a∧P a
section
variable {α β:Type} {P:α→Prop} {Q:β→Prop}
theorem Ok.some{a:α}(h:P a):Ok P (some a):=⟨a,rfl,h⟩
theorem Ok.bind{x:Option α}{f:α→Option β}(hx:Ok P x)(hf:∀a,P a→Ok Q (f a)):Ok Q (x.bind f):=by
 obtain⟨a,rfl,ha⟩:=hx
 exact hf a ha
theorem Ok.mono{P' :α→Prop}{x:Option α}(hx:Ok P x)(h:∀a,P a→P' a):Ok P' x:=by
 obtain⟨a,rfl,ha⟩:=hx
 exact⟨a,rfl,h a ha⟩
theorem Ok.aP{b:Bool}{x:Option α}(hb:b=true)(hx:Ok P x):Ok P (aP b x):=by subst hb;exact hx
theorem Ok.ite{c:Bool}{x y:Option α}(hx:c=true→Ok P x)(hy:c=false→Ok P y):Ok P (bif c then x else y):=by
 cases c with
 |true=>exact hx rfl
 |false=>exact hy rfl
theorem Ok.rounds{γ:Type}{F:γ→(γ→Option α)→Option α}{v0:γ}(inv:γ→Prop)(μ:γ→Nat)(hμ:μ v0<xy)(h0:inv v0)
 (step:∀v kn,inv v→(∀v',inv v'→μ v' <μ v→Ok P (kn v'))→Ok P (F v kn)):Ok P (cH γ F v0):=by
 have key:∀n v,inv v→μ v<n→Ok P (iter F n v):=by
  intro n
  induction n with
  |zero=>intro v _ h;omega
  |succ n ih=>
   intro v hv hn
   exact step v (iter F n) hv fun v' hv' hlt=>ih v' hv' (by omega)
 exact key xy v0 h0 hμ
end
theorem bk{n:Int}(h1: -9223372036854775808≤n)(h2:n≤9223372036854775807):bG n=n:=by
 unfold bG IntKind.wrap
 simp[IntKind.bits,IntKind.signed,Int.bmod_def]
 omega
end Go.Ab
namespace Go.Proofs.Plain04
open Go Go.Ab
set_option linter.all false
theorem K8(n:Int):0≤IntKind.u64.wrap n∧IntKind.u64.wrap n<18446744073709551616:=by
 unfold IntKind.wrap
 simp[IntKind.bits,IntKind.signed]
 omega
theorem Nm{n:Int}(h1:0≤n)(h2:n<18446744073709551616):IntKind.u64.wrap n=n:=by
 unfold IntKind.wrap
 simp[IntKind.bits,IntKind.signed]
 omega
theorem FH(s:aQ):Ok (fun r=>0≤r.2∧r.2<18446744073709551616) (next s):=by
 rw[Fj]
 exact⟨_,rfl,K8 _⟩
theorem eM(s:aQ){n:Int}(hn:n≤1000000000):Ok (fun r=>0≤r.2∧(r.2<n∨r.2=0)) (Below s n):=by
 rw[CZ]
 refine Ok.ite (fun h=>Ok.some ⟨Int.le_refl _, .inr rfl⟩) fun h=> ?_
 have hn2:¬n<2:=by simpa using h
 refine Ok.bind (FH s) fun r hr=> ?_
 have hu:IntKind.u64.wrap n=n:=Nm (by omega) (by omega)
 refine Ok.aP (by rw[hu];simp;omega) (Ok.some ?_)
 rw[hu]
 have e:xW .u64 r.2 1=r.2/2:=by
  unfold xW
  rw[Int.fdiv_eq_ediv_of_nonneg _ (by decide)]
  simp[IntKind.bits]
 rw[e,Int.tmod_eq_emod_of_nonneg (by omega)]
 have h1:=Int.emod_nonneg (r.2/2) (show n≠0 by omega)
 have h2:=Int.emod_lt_of_pos (r.2/2) (show 0<n by omega)
 rw[bk (by omega) (by omega)]
 exact⟨h1, .inl h2⟩
theorem OA(s:aQ){n:Int}(hn:n≤1000000000):Ok (fun _=>True) (Pc s n):=by
 rw[ID]
 exact Ok.bind (eM s hn) fun r _=>Ok.some trivial
theorem pw(s:aQ){low high:Int}(h1: -1000000≤low)(h2:low≤1000000)(h3: -1000000≤high)(h4:high≤1000000):Ok (fun r=>low≤r.2∧(r.2≤high∨r.2=low)) (sK s low high):=by
 rw[Fy]
 refine Ok.bind (eM s (n:=bG (bG (high-low)+1)) ?_) fun r hr=>Ok.some ?_
 ·rw[bk (n:=high-low) (by omega) (by omega),bk (by omega) (by omega)];omega
 ·rw[bk (n:=high-low) (by omega) (by omega),bk (n:=high-low+1) (by omega) (by omega)]at hr
  simp only
  rw[bk (by omega) (by omega)]
  omega
theorem Fx(s:aQ){l:List Int}(h0:l≠[])(hl:l.length≤1000):Ok (fun r=>r.2∈l) (Of s l):=by
 rw[LZ]
 have hp:0<l.length:=List.length_pos_iff.2 h0
 refine Ok.ite (fun h=> ?_) fun h=>Ok.bind (eM s (n:=(l.length:Int)) (by omega)) fun r hr=>Ok.aP ?_ (Ok.some ?_)
 ·simp at h;exact absurd h h0
 ·simp;omega
 ·simp only
  rw[List.getD_eq_getElem?_getD,List.getElem?_eq_getElem (by omega)]
  exact List.getElem_mem _
theorem fa{n b:Nat}(hn:n≤1000000)(hb:b≤1000000):fV n b=true:=by
 unfold fV
 have:n*b≤1000000*1000000:=Nat.mul_le_mul hn hb
 simp;omega
theorem wR(s:aQ){length holds:Int}(h1:0≤length)(h2:length≤1000000)(h3:0≤holds)(h4:holds≤100):Ok (fun r=>(r.2.Holds.length:Int)≤holds) (pz s length holds):=by
 rw[u7]
 refine Ok.bind (pw s (by omega) (by omega) (by omega) (by omega)) fun r hr=> ?_
 refine Ok.bind (eM _ (by omega)) fun r2 hr2=> ?_
 refine Ok.bind (eM _ (by omega)) fun r3 hr3=> ?_
 refine Ok.bind (Fx _ (by simp) (by simp)) fun r4 hr4=> ?_
 refine Ok.bind (pw _ (by omega) (by omega) (by omega) (by omega)) fun r5 hr5=> ?_
 refine Ok.bind (eM _ (by omega)) fun r6 hr6=> ?_
 refine Ok.bind (Fx _ (by simp) (by simp)) fun r7 hr7=> ?_
 refine Ok.bind (eM _ (by rw[bk (by omega) (by omega)];omega)) fun r8 hr8=> ?_
 rw[bk (n:=holds+1) (by omega) (by omega)]at hr8
 refine Ok.rounds (fun v=>0≤v.1.2.2.2.2.1∧v.1.2.2.2.2.1≤holds∧(v.2.2.1.2.2.2.2.1.length:Int)+v.1.2.2.2.2.1≤holds∧0≤v.1.2.2.2.1∧v.1.2.2.2.1≤1000000) (fun v=>v.1.2.2.2.2.1.toNat) ?_ ?_ ?_
 ·show r8.2.toNat<18446744073709551616
  omega
 ·simp;omega
 ·rintro ⟨⟨_,_,_,at_,i,_⟩,⟨w,_⟩,⟨way,st,lo,hi,hs,_⟩,_⟩ kn hi' hk
  simp only at hi'
  refine Ok.ite (fun hc=>Ok.ite (fun hc2=> ?_) fun _=>Ok.some (by simp only;omega)) fun _=>Ok.some (by simp only;omega)
  simp only[decide_eq_true_eq]at hc hc2
  rw[bk (n:=length-1) (by omega) (by omega)]at hc2
  have e1:bG (at_+1)=at_+1:=bk (by omega) (by omega)
  have e2:bG (length-1)=length-1:=bk (by omega) (by omega)
  refine Ok.bind (pw _ (low:=bG (at_+1)) (high:=bG (length-1)) (by omega) (by omega) (by omega) (by omega)) fun r9 hr9=> ?_
  rw[e1,e2]at hr9
  refine Ok.bind (eM _ (by omega)) fun r10 hr10=> ?_
  have hi1:bG (i-1)=i-1:=bk (by omega) (by omega)
  refine Ok.ite (fun _=> ?_) fun _=> ?_
  all_goals
   refine Ok.aP (fa (by simp;omega) (by omega)) (hk _ ?_ ?_)
   ·simp[hi1];omega
   ·simp[hi1];omega
theorem Ld(s:aQ){c:Convoy}(hc:c.Trucks.length≤1000):Ok (fun r=>r.2.Trucks=c.Trucks) (wide s c):=by
 rw[Fp]
 refine Ok.rounds (fun v=>v.2.1.2.2.2.1=c.Trucks∧0≤v.1.2.2.2.1∧v.1.2.2.2.1≤c.Trucks.length) (fun v=>((c.Trucks.length:Int)-v.1.2.2.2.1).toNat) ?_ ?_ ?_
 ·show((c.Trucks.length:Int)-0).toNat<18446744073709551616
  omega
 ·simp
 ·rintro ⟨⟨_,_,_,i,_⟩,⟨len,gap,fails,ts,_⟩,_⟩ kn hi' hk
  simp only at hi'
  obtain⟨rfl,h1,h2⟩:=hi'
  refine Ok.ite (fun hlt=> ?_) fun _=> ?_
  ·simp only[decide_eq_true_eq]at hlt
   have e:bG (i+1)=i+1:=bk (by omega) (by omega)
   refine Ok.aP (by simp;omega) (hk _ ?_ ?_)
   ·simp[e];omega
   ·simp[e];omega
  ·refine Ok.bind (eM _ (by omega)) fun r hr=>Ok.bind (Fx _ (by simp) (by simp)) fun r2 hr2=>Ok.some rfl
theorem tZ(s:aQ){most:Int}(h0:0≤most)(h1:most≤100):Ok (fun r=>(r.2.Trucks.length:Int)≤most∧∀t∈r.2.Trucks,t.Holds.length≤3) (ir s most):=by
 rw[tX]
 refine Ok.bind (pw s (by omega) (by omega) (by omega) (by omega)) fun r hr=> ?_
 refine Ok.bind (eM _ (by omega)) fun r2 hr2=> ?_
 refine Ok.bind (eM _ (by rw[bk (by omega) (by omega)];omega)) fun r3 hr3=> ?_
 rw[bk (n:=most+1) (by omega) (by omega)]at hr3
 refine Ok.rounds (fun v=>0≤v.1.2.2.2.1∧v.1.2.2.2.1≤most∧(v.2.2.1.2.2.2.1.length:Int)+v.1.2.2.2.1≤most∧(∀t∈v.2.2.1.2.2.2.1,t.Holds.length≤3)∧0≤v.2.2.1.1∧v.2.2.1.1≤1000000) (fun v=>v.1.2.2.2.1.toNat) ?_ ?_ ?_
 ·show r3.2.toNat<18446744073709551616
  omega
 ·simp;omega
 ·rintro ⟨⟨_,_,_,i,_⟩,⟨w,_⟩,⟨len,gap,fails,ts,_⟩,_⟩ kn hi' hk
  simp only at hi'
  obtain⟨a1,a2,a3,a4,a5,a6⟩:=hi'
  have e:bG (i-1)=i-1:=bk (by omega) (by omega)
  refine Ok.ite (fun hlt=> ?_) fun _=> ?_
  ·simp only[decide_eq_true_eq]at hlt
   refine Ok.bind (wR _ a5 a6 (by omega) (by omega)) fun r4 hr4=> ?_
   refine Ok.aP (fa (by simp;omega) (by omega)) (hk _ ?_ ?_)
   ·simp only[e,List.length_append,List.length_singleton]
    refine⟨by omega,by omega,by push_cast;omega,fun t ht=> ?_,a5,a6⟩
    rcases List.mem_append.1 ht with ht|ht
    ·exact a4 t ht
    ·simp only[List.mem_singleton]at ht;subst ht;omega
   ·simp[e];omega
  ·refine Ok.bind (Ld _ (by simp only;omega)) fun r5 hr5=>Ok.some ?_
   simp only at hr5⊢
   rw[hr5]
   exact⟨by omega,a4⟩
theorem wU{nums:List Int}(hn:nums.length≤9223372036854775807):Ok (fun _=>True) (jM nums):=by
 rw[wE]
 refine Ok.rounds (fun v=>0≤v.1.2.1∧v.1.2.1≤nums.length) (fun v=>((nums.length:Int)-v.1.2.1).toNat) ?_ ?_ ?_
 ·show((nums.length:Int)-0).toNat<18446744073709551616
  omega
 ·simp
 ·rintro ⟨⟨_,i,_⟩,⟨w,_⟩,_⟩ kn hi' hk
  simp only at hi'
  refine Ok.ite (fun hlt=> ?_) fun _=>Ok.some trivial
  simp only[decide_eq_true_eq]at hlt
  have e:bG (i+1)=i+1:=bk (by omega) (by omega)
  refine Ok.aP (by simp;omega) (Ok.bind (FH _) fun r _=>hk _ ?_ ?_)
  ·simp[e];omega
  ·simp[e];omega
end Go.Proofs.Plain04
namespace Go.Proofs.Plain04
open Go Go.Ab
set_option linter.all false
theorem ok_eq{α:Type}{x:Option α}{a:α}(h:Ok (fun b=>b=a) x):x=some a:=by obtain⟨b,h1,rfl⟩:=h;exact h1
theorem Ok.beq{α β:Type}{Q:β→Prop}{x:Option α}{a:α}{f:α→Option β}(hx:x=some a)(hf:Ok Q (f a)):Ok Q (x.bind f):=by subst hx;exact hf
theorem Ok.KB{α γ:Type}{F:γ→(γ→Option α)→Option α}{v0:γ}(inv:γ→Prop)(μ:γ→Nat)(P:γ→α→Prop)(hμ:μ v0<xy)(h0:inv v0)
 (step:∀v kn,inv v→(∀v',inv v'→μ v' <μ v→Ok (P v') (kn v'))→Ok (P v) (F v kn)):Ok (P v0) (cH γ F v0):=by
 have key:∀n v,inv v→μ v<n→Ok (P v) (iter F n v):=by
  intro n
  induction n with
  |zero=>intro v _ h;omega
  |succ n ih=>
   intro v hv hn
   exact step v (iter F n) hv fun v' hv' hlt=>ih v' hv' (by omega)
 exact key xy v0 h0 hμ
theorem JR{α:Type}{b:Bool}(h:b=true)(x y:α):(bif b then x else y)=x:=by subst h;rfl
theorem Gn{α:Type}{b:Bool}(h:b=false)(x y:α):(bif b then x else y)=y:=by subst h;rfl
theorem Ok.yes{α:Type}{b:Bool}{x y:Option α}{P:α→Prop}(h:b=true)(hx:Ok P x):Ok P (bif b then x else y):=by subst h;exact hx
theorem Ok.no{α:Type}{b:Bool}{x y:Option α}{P:α→Prop}(h:b=false)(hx:Ok P y):Ok P (bif b then x else y):=by subst h;exact hx
theorem ib{i:Int}{n:Nat}(h1:0≤i)(h2:i<n):(decide (0≤i)&&decide (i<(n:Int)))=true:=by simp;omega
theorem PM{α β:Type}{f:α→β}{l:List α}{d:α}{i:Nat}(h:i<l.length):(l.map f).drop i=f (l.getD i d)::(l.map f).drop (i+1):=by
 rw[List.drop_eq_getElem_cons (by simpa using h)]
 simp[List.getD_eq_getElem?_getD,h]
theorem nN{α:Type}{l:List α}{d:α}{i:Nat}(h:i<l.length):l.getD i d∈l:=by
 rw[List.getD_eq_getElem?_getD,List.getElem?_eq_getElem h]
 exact List.getElem_mem h
theorem ez{α:Type}(f:Nat→α)(d:α){n i:Nat}(h:i<n):((List.range n).map f).getD i d=f i:=by
 rw[List.getD_eq_getElem?_getD,List.getElem?_map,List.getElem?_range h];rfl
theorem mK{α:Type}(f:Nat→α)(n:Nat):(List.range n).map f++[f n]=(List.range (n+1)).map f:=by
 rw[List.range_succ,List.map_append];rfl
theorem dR{α:Type}(f:Nat→α)(n:Nat):((List.range n).map f).length=n:=by simp
theorem ob{α:Type}{l:List α}(d:α):l=(List.range l.length).map (fun i=>l.getD i d):=by
 apply List.ext_getElem
 ·simp
 ·intro i h1 h2
  simp[List.getD_eq_getElem?_getD,List.getElem?_eq_getElem h1]
theorem DN{i:Int}(h:0≤i):(i+1).toNat=i.toNat+1:=by omega
end Go.Proofs.Plain04
