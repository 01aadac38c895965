/- Walks by computing: what each function of the program that the laws reach gives for what it gets, as plain Lean, and that it is so; without a condition but those that stand in each theorem. -/
import Derived.Test.YtafnhieaeejlcaaDoorW1
import Derived.Test.YtafnhieaeejlcaaDoorW2
import Derived.Test.YtafnhieaeejlcaaDoorW3
import Derived.Test.YtafnhieaeejlcaaDoorW4
import Derived.Test.YtafnhieaeejlcaaDoorW5
import Derived.Test.YtafnhieaeejlcaaDoorW6
import Derived.Test.YtafnhieaeejlcaaDoorW7
set_option linter.all false
namespace Go.Proofs.Plain04
open Go Go.Ab
open Go.Proofs.YtafnhieaeejlcaaDoor (av)
set_option linter.all false
set_option maxRecDepth 100000
noncomputable section
def Pp(it:It Truck)(t:Truck)(fails:Bool):Option Truck:=
 bif fails then
 some (⟨t.Way,t.Start,t.Pace,[]⟩:Truck)
 else
 some t
def free:Truck→Bool→Option Truck:=iR (fun t fails=>Pp cS t fails)
def KS(it:It Bool)(n:Int)(low:Int)(high:Int):Option Bool:=
 bif (decide (low≤n))then
 some (decide (n≤high))
 else
 some false
def Qe:Int→Int→Int→Option Bool:=iR (fun n low high=>KS cS n low high)
theorem Kh(n:Int)(low:Int)(high:Int):Qe n low high=KS cS n low high:=by unfold Qe;rw[cd]
def SD:dC av:=⟨⟨15,[],[],[],[],[],[],[],[],[],[],[],[],true⟩,[]⟩
theorem Tj(it:It Bool)(n:Int)(low:Int)(high:Int):fW (ts:=[.bool]) it SD (bb Tryd.f64) Tryd.f64.results.toList (b6 [.int .i64, .int .i64, .int .i64] (n,low,high,()))=KS it n low high:=by kernel_rfl
def Q6:cK av.toSeat:=dK av.toSeat 64 [.int .i64, .int .i64, .int .i64] [.bool] true (fun a=>Qe a.1 a.2.1 a.2.2.1) (fun a x hx h h' =>bW (Z:=av) (ats:=[.int .i64, .int .i64, .int .i64]) (ts:=[.bool]) (E:=SD) (fn:=Tryd.f64) (c:=bb Tryd.f64) Tryd.func64 (by kernel_rfl) (by kernel_rfl) (by kernel_rfl) (by kernel_rfl) rfl ((Tj cS a.1 a.2.1 a.2.2.1).trans ((Kh a.1 a.2.1 a.2.2.1).symm.trans hx)) h h') (fun _ x=>rfl)
def nc(it:It Int)(r:cF)(metre:Int):Option Int:=
 bif (r.Truck.Way==2)then
 some (bz (r.length-metre))
 else
 some metre
def ja:cF→Int→Option Int:=iR (fun r metre=>nc cS r metre)
theorem su(r:cF)(metre:Int):ja r metre=nc cS r metre:=by unfold ja;rw[cd]
def PJ:dC av:=⟨⟨14,[],[],[],[],[],[],[],[],[],[],[],[],true⟩,[]⟩
theorem Re(it:It Int)(r:cF)(metre:Int):fW (ts:=[.int .i64]) it PJ (bb Tryd.f107) Tryd.f107.results.toList (b6 [.cF, .int .i64] (r,metre,()))=nc it r metre:=by kernel_rfl
def MF:cK av.toSeat:=dK av.toSeat 107 [.cF, .int .i64] [.int .i64] true (fun a=>ja a.1 a.2.1) (fun a x hx h h' =>bW (Z:=av) (ats:=[.cF, .int .i64]) (ts:=[.int .i64]) (E:=PJ) (fn:=Tryd.f107) (c:=bb Tryd.f107) Tryd.func107 (by kernel_rfl) (by kernel_rfl) (by kernel_rfl) (by kernel_rfl) rfl ((Re cS a.1 a.2.1).trans ((su a.1 a.2.1).symm.trans hx)) h h') (fun _ x=>rfl)
def G3(it:It Int)(c:Convoy)(t:Truck)(h:Hold):Option Int:=
 bif (t.Way==2)then
 some (bz (c.Length-h.At))
 else
 some h.At
def Bq:Convoy→Truck→Hold→Option Int:=iR (fun c t h=>G3 cS c t h)
def II(t:Truck)(c:Convoy)(gone:Int)(minute:Int)(i:Int)(kn_:Int→Option Int):Option Int:=
 bif (decide (i<(t.Holds.length:Int)))then
 aW (decide (0≤i)&&decide (i<(t.Holds.length:Int)))<|
 (Bq c t (t.Holds.getD i.toNat dv)).bind fun r=>
 bif (decide (r≥gone))then
 aW (decide (0≤i)&&decide (i<(t.Holds.length:Int)))<|
 bif (decide ((t.Holds.getD i.toNat dv).Until>minute))then
 aW (decide (0≤i)&&decide (i<(t.Holds.length:Int)))<|
 (Bq c t (t.Holds.getD i.toNat dv)).bind fun r2=>
 some r2
 else
 kn_ (bz (i+1))
 else
 kn_ (bz (i+1))
 else
 some c.Length
def Nr(it:It Int)(c:Convoy)(t:Truck)(gone:Int)(minute:Int):Option Int:=
 it _ (fun(v_0:(Unit×Unit×Int×Unit)×(Unit)) kn=>II t c gone minute v_0.1.2.2.1 (fun y0=>kn (((),(),y0,()),(())))) (((),(),0,()),(()))
def Qh:Convoy→Truck→Int→Int→Option Int:=iR (fun c t gone minute=>Nr cS c t gone minute)
def Pu(it:It Int)(c:Convoy)(t:Truck)(gone:Int)(minute:Int)(metres:Int):Option Int:=
 (Qh c t gone minute).bind fun r=>
 some (min (bz (gone+metres)) r)
def Next:Convoy→Truck→Int→Int→Int→Option Int:=iR (fun c t gone minute metres=>Pu cS c t gone minute metres)
def Ij(r:cF)(minute:Int)(x11:Int)(kn_:Int→Option Int):Option Int:=
 bif (decide (x11<(r.Truck.Holds.length:Int)))then
 aW (decide (0≤x11)&&decide (x11<(r.Truck.Holds.length:Int)))<|
 bif (decide ((r.Truck.Holds.getD x11.toNat dv).Until>minute))then
 (ja r ((r.Truck.Holds.getD x11.toNat dv).At)).bind fun r2=>
 some r2
 else
 kn_ (bz (x11+1))
 else
 some r.length
def DN(it:It Int)(r:cF)(minute:Int):Option Int:=
 it _ (fun(v_0:(Unit×Int×Unit)×(Unit)) kn=>Ij r minute v_0.1.2.1 (fun y0=>kn (((),y0,()),(())))) (((),0,()),(()))
def zr:cF→Int→Option Int:=iR (fun r minute=>DN cS r minute)
theorem Bo(r:cF)(minute:Int):zr r minute=DN cS r minute:=by unfold zr;rw[cd]
def Qu:dC av:=⟨⟨26,[MF],[],[],[],[],[],[],[],[],[],[],[],true⟩,[(2,⟨⟨[(2, .bx 2 0),(11, .v (.int .i64))],[]⟩,[1,9,10],[2],[]⟩)]⟩
theorem Rf(it:It Int)(r:cF)(minute:Int):fW (ts:=[.int .i64]) it Qu (bb Tryd.f116) Tryd.f116.results.toList (b6 [.cF, .int .i64] (r,minute,()))=DN it r minute:=by kernel_rfl
def Mg:cK av.toSeat:=dK av.toSeat 116 [.cF, .int .i64] [.int .i64] true (fun a=>zr a.1 a.2.1) (fun a x hx h h' =>bW (Z:=av) (ats:=[.cF, .int .i64]) (ts:=[.int .i64]) (E:=Qu) (fn:=Tryd.f116) (c:=bb Tryd.f116) Tryd.func116 (by kernel_rfl) (by kernel_rfl) (by kernel_rfl) (by kernel_rfl) rfl ((Rf cS a.1 a.2.1).trans ((Bo a.1 a.2.1).symm.trans hx)) h h') (fun _ x=>rfl)
def pn(it:It Int)(t:bQ):Option Int:=
 some (bz ((bz (t.ride.Truck.Start+(t.gone.length:Int)))-1))
def kS:bQ→Option Int:=iR (fun t=>pn cS t)
theorem tT(t:bQ):kS t=pn cS t:=by unfold kS;rw[cd]
def Sv:dC av:=⟨⟨12,[],[],[],[],[],[],[],[],[],[],[],[],true⟩,[]⟩
theorem Tc(it:It Int)(t:bQ):fW (ts:=[.int .i64]) it Sv (bb Tryd.f98) Tryd.f98.results.toList (b6 [.bQ] (t,()))=pn it t:=by kernel_rfl
def QG:cK av.toSeat:=dK av.toSeat 98 [.bQ] [.int .i64] true (fun a=>kS a.1) (fun a x hx h h' =>bW (Z:=av) (ats:=[.bQ]) (ts:=[.int .i64]) (E:=Sv) (fn:=Tryd.f98) (c:=bb Tryd.f98) Tryd.func98 (by kernel_rfl) (by kernel_rfl) (by kernel_rfl) (by kernel_rfl) rfl ((Tc cS a.1).trans ((tT a.1).symm.trans hx)) h h') (fun _ x=>rfl)
def sw(it:It Span)(t:bQ)(minute:Int):Option Span:=
 bif (decide ((min (bz (minute-t.ride.Truck.Start)) (bz ((t.gone.length:Int)-1)))<0))then
 some (⟨0,0⟩:Span)
 else
 aW (decide (0≤(min (bz (minute-t.ride.Truck.Start)) (bz ((t.gone.length:Int)-1))))&&decide ((min (bz (minute-t.ride.Truck.Start)) (bz ((t.gone.length:Int)-1)))<(t.gone.length:Int)))<|
 some (t.gone.getD (min (bz (minute-t.ride.Truck.Start)) (bz ((t.gone.length:Int)-1))).toNat iz)
def ry:bQ→Int→Option Span:=iR (fun t minute=>sw cS t minute)
theorem vI(t:bQ)(minute:Int):ry t minute=sw cS t minute:=by unfold ry;rw[cd]
def R8:dC av:=⟨⟨25,[],[],[],[],[],[],[],[],[],[],[],[],true⟩,[]⟩
theorem TF(it:It Span)(t:bQ)(minute:Int):fW (ts:=[.Span]) it R8 (bb Tryd.f87) Tryd.f87.results.toList (b6 [.bQ, .int .i64] (t,minute,()))=sw it t minute:=by kernel_rfl
def Rq:cK av.toSeat:=dK av.toSeat 87 [.bQ, .int .i64] [.Span] true (fun a=>ry a.1 a.2.1) (fun a x hx h h' =>bW (Z:=av) (ats:=[.bQ, .int .i64]) (ts:=[.Span]) (E:=R8) (fn:=Tryd.f87) (c:=bb Tryd.f87) Tryd.func87 (by kernel_rfl) (by kernel_rfl) (by kernel_rfl) (by kernel_rfl) rfl ((TF cS a.1 a.2.1).trans ((vI a.1 a.2.1).symm.trans hx)) h h') (fun _ x=>rfl)
def qG(it:It Span)(t:bQ)(gone:Span):Option Span:=
 (ja t.ride gone.Lo).bind fun r=>
 (ja t.ride gone.Hi).bind fun r2=>
 some (⟨(min r r2),(max r r2)⟩:Span)
def j9:bQ→Span→Option Span:=iR (fun t gone=>qG cS t gone)
theorem rH(t:bQ)(gone:Span):j9 t gone=qG cS t gone:=by unfold j9;rw[cd]
def Si:dC av:=⟨⟨24,[MF],[],[],[],[],[],[],[],[],[],[],[],true⟩,[]⟩
theorem Tt(it:It Span)(t:bQ)(gone:Span):fW (ts:=[.Span]) it Si (bb Tryd.f86) Tryd.f86.results.toList (b6 [.bQ, .Span] (t,gone,()))=qG it t gone:=by kernel_rfl
def R0:cK av.toSeat:=dK av.toSeat 86 [.bQ, .Span] [.Span] true (fun a=>j9 a.1 a.2.1) (fun a x hx h h' =>bW (Z:=av) (ats:=[.bQ, .Span]) (ts:=[.Span]) (E:=Si) (fn:=Tryd.f86) (c:=bb Tryd.f86) Tryd.func86 (by kernel_rfl) (by kernel_rfl) (by kernel_rfl) (by kernel_rfl) rfl ((Tt cS a.1 a.2.1).trans ((rH a.1 a.2.1).symm.trans hx)) h h') (fun _ x=>rfl)
def qF(it:It (Span×Int))(t:bQ)(minute:Int):Option (Span×Int):=
 bif (decide (minute<t.ride.Truck.Start))then
 some ((⟨0,0⟩:Span),2)
 else
 (ry t minute).bind fun r=>
 (zr t.ride minute).bind fun r2=>
 bif (decide (r.Hi<r2))then
 (j9 t r).bind fun r3=>
 some (r3,1)
 else
 bif (decide (r.Lo≥r2))then
 some ((⟨0,0⟩:Span),2)
 else
 (j9 t (⟨r.Lo,(bz (r2-1))⟩:Span)).bind fun r4=>
 some (r4,3)
def kd:bQ→Int→Option (Span×Int):=iR (fun t minute=>qF cS t minute)
theorem rV(t:bQ)(minute:Int):kd t minute=qF cS t minute:=by unfold kd;rw[cd]
def Sn:dC av:=⟨⟨43,[Rq,Mg,R0],[],[],[],[],[],[],[],[],[],[],[],true⟩,[]⟩
theorem Td(it:It (Span×Int))(t:bQ)(minute:Int):fW (ts:=[.Span, .int .i64]) it Sn (bb Tryd.f85) Tryd.f85.results.toList (b6 [.bQ, .int .i64] (t,minute,()))=qF it t minute:=by kernel_rfl
def Ro:cK av.toSeat:=dK av.toSeat 85 [.bQ, .int .i64] [.Span, .int .i64] true (fun a=>kd a.1 a.2.1) (fun a x hx h h' =>bW (Z:=av) (ats:=[.bQ, .int .i64]) (ts:=[.Span, .int .i64]) (E:=Sn) (fn:=Tryd.f85) (c:=bb Tryd.f85) Tryd.func85 (by kernel_rfl) (by kernel_rfl) (by kernel_rfl) (by kernel_rfl) rfl ((Td cS a.1 a.2.1).trans ((rV a.1 a.2.1).symm.trans hx)) h h') (fun _ x=>rfl)
def EI(it:It (Int×Int×Bool))(n:bE)(a:bQ)(b:bQ)(minute:Int):Option (Int×Int×Bool):=
 (kd a minute).bind fun r=>
 (kd b minute).bind fun r2=>
 bif (r.2==2)then
 some (0,0,false)
 else
 bif (r2.2==2)then
 some (0,0,false)
 else
 bif (decide ((max r.1.Lo (bz ((bz (r2.1.Lo-n.gap))+1)))≤r.1.Hi))then
 some ((max r.1.Lo (bz ((bz (r2.1.Lo-n.gap))+1))),(max r2.1.Lo (bz ((bz ((max r.1.Lo (bz ((bz (r2.1.Lo-n.gap))+1)))-n.gap))+1))),(decide ((max r2.1.Lo (bz ((bz ((max r.1.Lo (bz ((bz (r2.1.Lo-n.gap))+1)))-n.gap))+1)))≤r2.1.Hi)))
 else
 some ((max r.1.Lo (bz ((bz (r2.1.Lo-n.gap))+1))),(max r2.1.Lo (bz ((bz ((max r.1.Lo (bz ((bz (r2.1.Lo-n.gap))+1)))-n.gap))+1))),false)
def uB:bE→bQ→bQ→Int→Option (Int×Int×Bool):=iR (fun n a b minute=>EI cS n a b minute)
theorem Da(n:bE)(a:bQ)(b:bQ)(minute:Int):uB n a b minute=EI cS n a b minute:=by unfold uB;rw[cd]
def Po:dC av:=⟨⟨62,[Ro],[],[],[],[],[],[],[],[],[],[],[],true⟩,[]⟩
theorem Rg(it:It (Int×Int×Bool))(n:bE)(a:bQ)(b:bQ)(minute:Int):fW (ts:=[.int .i64, .int .i64, .bool]) it Po (bb Tryd.f121) Tryd.f121.results.toList (b6 [.bE, .bQ, .bQ, .int .i64] (n,a,b,minute,()))=EI it n a b minute:=by kernel_rfl
def Pj:cK av.toSeat:=dK av.toSeat 121 [.bE, .bQ, .bQ, .int .i64] [.int .i64, .int .i64, .bool] true (fun a=>uB a.1 a.2.1 a.2.2.1 a.2.2.2.1) (fun a x hx h h' =>bW (Z:=av) (ats:=[.bE, .bQ, .bQ, .int .i64]) (ts:=[.int .i64, .int .i64, .bool]) (E:=Po) (fn:=Tryd.f121) (c:=bb Tryd.f121) Tryd.func121 (by kernel_rfl) (by kernel_rfl) (by kernel_rfl) (by kernel_rfl) rfl ((Rg cS a.1 a.2.1 a.2.2.1 a.2.2.2.1).trans ((Da a.1 a.2.1 a.2.2.1 a.2.2.2.1).symm.trans hx)) h h') (fun _ x=>rfl)
def D2(n:bE)(a:br)(b:br)(minute:Int)(x16:Int)(m_Minute:Int)(m_First:Int)(m_Second:Int)(m_FirstFails:Bool)(m_SecondFails:Bool)(m_At:Int)(m_Other:Int)(kn_:Int→Int→Int→Int→Bool→Bool→Int→Int→Option (bj×Bool)):Option (bj×Bool):=
 bif (decide (x16<4))then
 bif x16==0 then
 bif (decide ((bz (0+0))>n.fails))then
 kn_ (bz (x16+1)) m_Minute m_First m_Second m_FirstFails m_SecondFails m_At m_Other
 else
 (uB n a.a b.a minute).bind fun r=>
 bif r.2.2 then
 some ((⟨minute,0,0,false,false,r.1,r.2.1⟩:bj),true)
 else
 kn_ (bz (x16+1)) m_Minute m_First m_Second m_FirstFails m_SecondFails m_At m_Other
 else
 bif x16==1 then
 bif (decide ((bz (1+0))>n.fails))then
 kn_ (bz (x16+1)) m_Minute m_First m_Second m_FirstFails m_SecondFails m_At m_Other
 else
 (uB n a.b b.a minute).bind fun r2=>
 bif r2.2.2 then
 some ((⟨minute,0,0,true,false,r2.1,r2.2.1⟩:bj),true)
 else
 kn_ (bz (x16+1)) m_Minute m_First m_Second m_FirstFails m_SecondFails m_At m_Other
 else
 bif x16==2 then
 bif (decide ((bz (0+1))>n.fails))then
 kn_ (bz (x16+1)) m_Minute m_First m_Second m_FirstFails m_SecondFails m_At m_Other
 else
 (uB n a.a b.b minute).bind fun r3=>
 bif r3.2.2 then
 some ((⟨minute,0,0,false,true,r3.1,r3.2.1⟩:bj),true)
 else
 kn_ (bz (x16+1)) m_Minute m_First m_Second m_FirstFails m_SecondFails m_At m_Other
 else
 bif x16==3 then
 bif (decide ((bz (1+1))>n.fails))then
 kn_ (bz (x16+1)) m_Minute m_First m_Second m_FirstFails m_SecondFails m_At m_Other
 else
 (uB n a.b b.b minute).bind fun r4=>
 bif r4.2.2 then
 some ((⟨minute,0,0,true,true,r4.1,r4.2.1⟩:bj),true)
 else
 kn_ (bz (x16+1)) m_Minute m_First m_Second m_FirstFails m_SecondFails m_At m_Other
 else
 none
 else
 some ((⟨0,0,0,false,false,0,0⟩:bj),false)
def we(it:It (bj×Bool))(n:bE)(a:br)(b:br)(minute:Int):Option (bj×Bool):=
 it _ (fun(v_0:(Unit×Unit×Unit×Unit×Int×Unit)×((Int×Int×Int×Bool×Bool×Int×Int×Unit)×Unit)) kn=>D2 n a b minute v_0.1.2.2.2.2.1 v_0.2.1.1 v_0.2.1.2.1 v_0.2.1.2.2.1 v_0.2.1.2.2.2.1 v_0.2.1.2.2.2.2.1 v_0.2.1.2.2.2.2.2.1 v_0.2.1.2.2.2.2.2.2.1 (fun y0 y1 y2 y3 y4 y5 y6 y7=>kn (((),(),(),(),y0,()),((y1,y2,y3,y4,y5,y6,y7,()),())))) (((),(),(),(),0,()),((0,0,0,false,false,0,0,()),()))
def rK:bE→br→br→Int→Option (bj×Bool):=iR (fun n a b minute=>we cS n a b minute)
theorem wJ(n:bE)(a:br)(b:br)(minute:Int):rK n a b minute=we cS n a b minute:=by unfold rK;rw[cd]
def P9:dC av:=⟨⟨55,[Pj],[],[],[],[],[],[],[],[],[],[],[],true⟩,[(2,⟨⟨[(4, .bx 4 0),(5, .bx 5 0),(6, .bx 6 0),(8, .bx 8 0),(16, .v (.int .i64))],[(8,[.v (.int .i64), .v (.int .i64), .v (.int .i64), .v .bool, .v .bool, .v (.int .i64), .v (.int .i64)])]⟩,[3,15],[4,5,6],[]⟩)]⟩
theorem R2(it:It (bj×Bool))(n:bE)(a:br)(b:br)(minute:Int):fW (ts:=[.bj, .bool]) it P9 (bb Tryd.f109) Tryd.f109.results.toList (b6 [.bE, .br, .br, .int .i64] (n,a,b,minute,()))=we it n a b minute:=by kernel_rfl
def P7:cK av.toSeat:=dK av.toSeat 109 [.bE, .br, .br, .int .i64] [.bj, .bool] true (fun a=>rK a.1 a.2.1 a.2.2.1 a.2.2.2.1) (fun a x hx h h' =>bW (Z:=av) (ats:=[.bE, .br, .br, .int .i64]) (ts:=[.bj, .bool]) (E:=P9) (fn:=Tryd.f109) (c:=bb Tryd.f109) Tryd.func109 (by kernel_rfl) (by kernel_rfl) (by kernel_rfl) (by kernel_rfl) rfl ((R2 cS a.1 a.2.1 a.2.2.1 a.2.2.2.1).trans ((wJ a.1 a.2.1 a.2.2.1 a.2.2.2.1).symm.trans hx)) h h') (fun _ x=>rfl)
def Cb(a0:cF)(t:Int)(gone_Lo:Int)(gone_Hi:Int)(kn_:Int→Int→Int→Option (List (Int×Span×Unit))):Option (List (Int×Span×Unit)):=
 BN (t,(⟨gone_Lo,gone_Hi⟩:Span),())
 (some [])
 (bif (decide (gone_Lo<a0.length))then
 (zr a0 t).bind fun r=>
 kn_ (bz (t+1)) (min (bz (gone_Lo+a0.Truck.Pace.Lo)) r) (min (bz (gone_Hi+a0.Truck.Pace.Hi)) r)
 else
 some [])
def s5(it:It (List (Int×Span×Unit)))(a0:cF):Option (List (Int×Span×Unit)):=
 it _ (fun(v_0:(Unit×Unit×Int×Unit)×((Int×Int×Unit)×Unit)) kn=>Cb a0 v_0.1.2.2.1 v_0.2.1.1 v_0.2.1.2.1 (fun y0 y1 y2=>kn (((),(),y0,()),((y1,y2,()),())))) (((),(),a0.Truck.Start,()),((0,0,()),()))
def nL:cF→Option (List (Int×Span×Unit)):=iR (fun a0=>s5 cS a0)
theorem uw(a0:cF):nL a0=s5 cS a0:=by unfold nL;rw[cd]
def Qz:dC av:=⟨⟨44,[Mg],[],[],[],[],[],[],[],[],[],[],[YL],true⟩,[(2,⟨⟨[(0, .yl YL),(3, .bx 3 0),(4, .v (.int .i64))],[(3,[.v (.int .i64), .v (.int .i64)])]⟩,[1],[],[]⟩)]⟩
theorem RY(it:It (List (Int×Span×Unit)))(a0:cF):HS [.int .i64, .Span] it Qz (bb Tryd.f125) (b6 [.ptr .cF] (a0,()))=s5 it a0:=by kernel_rfl
def PC:qC av.toSeat:=HX av.toSeat 125 [.ptr .cF] [.int .i64, .Span] rfl (fun a=>nL a.1) (fun a x hx h=>Cf (Z:=av) (cts:=[.ptr .cF]) (E:=Qz) (fn:=Tryd.f125) (c:=bb Tryd.f125) Tryd.func125 (by kernel_rfl) (by kernel_rfl) (by kernel_rfl) (by kernel_rfl) rfl rfl ((RY cS a.1).trans ((uw a.1).symm.trans hx)) h)
def wx(it:It cF)(r:cF):Option cF:=
 some r
def u0:cF→Option cF:=iR (fun r=>wx cS r)
theorem wu(r:cF):u0 r=wx cS r:=by unfold u0;rw[cd]
def Pv:dC av:=⟨⟨4,[],[],[],[],[],[],[],[],[],[],[],[],true⟩,[]⟩
theorem Rh(it:It cF)(r:cF):I4 125 .cF it Pv (bb Tryd.f115) Tryd.f115.results.toList (b6 [.cF] (r,()))=wx it r:=by kernel_rfl
def QB:cK av.toSeat:=dK av.toSeat 115 [.cF] [.clo 125 .cF] false (fun a=>u0 a.1) (fun a x hx h h' =>Aj (Z:=av) (ats:=[.cF]) (E:=Pv) (fn:=Tryd.f115) (c:=bb Tryd.f115) Tryd.func115 (by kernel_rfl) (by kernel_rfl) (by kernel_rfl) (by kernel_rfl) rfl ((Rh cS a.1).trans ((wu a.1).symm.trans hx)) h h') (fun h=>nomatch h)
def DX(t_ride_Truck_Way:Int)(t_ride_Truck_Start:Int)(t_ride_Truck_Pace_Lo:Int)(t_ride_Truck_Pace_Hi:Int)(t_ride_Truck_Holds:List Hold)(t_ride_length:Int)(t_gone:List Span):Option bQ:=
 some (⟨⟨⟨t_ride_Truck_Way,t_ride_Truck_Start,⟨t_ride_Truck_Pace_Lo,t_ride_Truck_Pace_Hi⟩,t_ride_Truck_Holds⟩,t_ride_length⟩,t_gone⟩:bQ)
def DV(t_ride_Truck_Way:Int)(t_ride_Truck_Start:Int)(t_ride_Truck_Pace_Lo:Int)(t_ride_Truck_Pace_Hi:Int)(t_ride_Truck_Holds:List Hold)(t_ride_length:Int)(t_gone:List Span)(x10:Int)(x11:Span)(kn_:Int→Int→Int→Int→(List Hold)→Int→(List Span)→Option bQ):Option bQ:=
 aW (gU (t_gone.length+([x11]:List Span).length) 16)<|
 kn_ t_ride_Truck_Way t_ride_Truck_Start t_ride_Truck_Pace_Lo t_ride_Truck_Pace_Hi t_ride_Truck_Holds t_ride_length (t_gone++([x11]:List Span))
def vr(it:It bQ)(r:cF):Option bQ:=
 (u0 r).bind fun r2=>
 (nL r2).bind fun items=>it _ (fun(v_0:((Unit×Unit×Unit)×((Int×Int×Int×Int×(List Hold)×Int×(List Span)×Unit)×Unit))×List (Int×Span×Unit)) kn=>match v_0.2 with
 |[]=>DX v_0.1.2.1.1 v_0.1.2.1.2.1 v_0.1.2.1.2.2.1 v_0.1.2.1.2.2.2.1 v_0.1.2.1.2.2.2.2.1 v_0.1.2.1.2.2.2.2.2.1 v_0.1.2.1.2.2.2.2.2.2.1
 |a::l=>DV v_0.1.2.1.1 v_0.1.2.1.2.1 v_0.1.2.1.2.2.1 v_0.1.2.1.2.2.2.1 v_0.1.2.1.2.2.2.2.1 v_0.1.2.1.2.2.2.2.2.1 v_0.1.2.1.2.2.2.2.2.2.1 a.1 a.2.1 (fun y0 y1 y2 y3 y4 y5 y6=>kn ((((),(),()),((y0,y1,y2,y3,y4,y5,y6,()),())),l))) ((((),(),()),((r.Truck.Way,r.Truck.Start,r.Truck.Pace.Lo,r.Truck.Pace.Hi,r.Truck.Holds,r.length,[],()),())),items)
def po:cF→Option bQ:=iR (fun r=>vr cS r)
theorem vm(r:cF):po r=vr cS r:=by unfold po;rw[cd]
def Sx:dC av:=⟨⟨19,[QB],[],[],[],[PC],[],[],[],[],[],[15],[],true⟩,[(3,⟨⟨[(2, .bx 2 0),(3, .bx 3 0)],[(3,[.v (.int .i64), .v (.int .i64), .v (.int .i64), .v (.int .i64), .v (.sl .Hold), .v (.int .i64), .os 16 47 .Span])]⟩,[9],[2],[]⟩)]⟩
theorem Ts(it:It bQ)(r:cF):fW (ts:=[.bQ]) it Sx (bb Tryd.f83) Tryd.f83.results.toList (b6 [.cF] (r,()))=vr it r:=by kernel_rfl
def RB:cK av.toSeat:=dK av.toSeat 83 [.cF] [.bQ] false (fun a=>po a.1) (fun a x hx h h' =>bW (Z:=av) (ats:=[.cF]) (ts:=[.bQ]) (E:=Sx) (fn:=Tryd.f83) (c:=bb Tryd.f83) Tryd.func83 (by kernel_rfl) (by kernel_rfl) (by kernel_rfl) (by kernel_rfl) rfl ((Ts cS a.1).trans ((vm a.1).symm.trans hx)) h h') (fun h=>nomatch h)
def u5(it:It cF)(c:Convoy)(truck:Int)(fails:Bool):Option cF:=
 aW (decide (0≤truck)&&decide (truck<(c.Trucks.length:Int)))<|
 bif fails then
 some (⟨⟨(c.Trucks.getD truck.toNat ax).Way,(c.Trucks.getD truck.toNat ax).Start,(c.Trucks.getD truck.toNat ax).Pace,[]⟩,c.Length⟩:cF)
 else
 some (⟨(c.Trucks.getD truck.toNat ax),c.Length⟩:cF)
def tF:Convoy→Int→Bool→Option cF:=iR (fun c truck fails=>u5 cS c truck fails)
theorem yG(c:Convoy)(truck:Int)(fails:Bool):tF c truck fails=u5 cS c truck fails:=by unfold tF;rw[cd]
def SE:dC av:=⟨⟨20,[],[],[],[],[],[],[],[],[],[],[],[],true⟩,[]⟩
theorem Tn(it:It cF)(c:Convoy)(truck:Int)(fails:Bool):fW (ts:=[.cF]) it SE (bb Tryd.f84) Tryd.f84.results.toList (b6 [.Convoy, .int .i64, .bool] (c,truck,fails,()))=u5 it c truck fails:=by kernel_rfl
def RI:cK av.toSeat:=dK av.toSeat 84 [.Convoy, .int .i64, .bool] [.cF] false (fun a=>tF a.1 a.2.1 a.2.2.1) (fun a x hx h h' =>bW (Z:=av) (ats:=[.Convoy, .int .i64, .bool]) (ts:=[.cF]) (E:=SE) (fn:=Tryd.f84) (c:=bb Tryd.f84) Tryd.func84 (by kernel_rfl) (by kernel_rfl) (by kernel_rfl) (by kernel_rfl) rfl ((Tn cS a.1 a.2.1 a.2.2.1).trans ((yG a.1 a.2.1 a.2.2.1).symm.trans hx)) h h') (fun h=>nomatch h)
def DD(c:Convoy)(out:List br)(x8:Int)(kn_:(List br)→Int→Option (List br)):Option (List br):=
 bif (decide (x8<(c.Trucks.length:Int)))then
 (tF c x8 false).bind fun r=>
 (po r).bind fun r2=>
 (tF c x8 true).bind fun r3=>
 (po r3).bind fun r4=>
 aW (gU (out.length+([(⟨r2,r4⟩:br)]:List br).length) 176)<|
 kn_ (out++([(⟨r2,r4⟩:br)]:List br)) (bz (x8+1))
 else
 some out
def vO(it:It (List br))(c:Convoy):Option (List br):=
 it _ (fun(v_0:(Unit×(List br)×Int×Unit)×(Unit)) kn=>DD c v_0.1.2.1 v_0.1.2.2.1 (fun y0 y1=>kn (((),y0,y1,()),(())))) (((),([]:List br),0,()),(()))
def rF:Convoy→Option (List br):=iR (fun c=>vO cS c)
theorem wK(c:Convoy):rF c=vO cS c:=by unfold rF;rw[cd]
def So:dC av:=⟨⟨25,[RI,RB],[],[],[],[],[],[],[],[],[],[21],[],true⟩,[(3,⟨⟨[(1, .bx 1 0),(3, .os 3 132 .br),(8, .v (.int .i64))],[]⟩,[7],[1],[]⟩)]⟩
theorem S8(it:It (List br))(c:Convoy):fW (ts:=[.sl .br]) it So (bb Tryd.f89) Tryd.f89.results.toList (b6 [.Convoy] (c,()))=vO it c:=by kernel_rfl
def RF:cK av.toSeat:=dK av.toSeat 89 [.Convoy] [.sl .br] false (fun a=>rF a.1) (fun a x hx h h' =>bW (Z:=av) (ats:=[.Convoy]) (ts:=[.sl .br]) (E:=So) (fn:=Tryd.f89) (c:=bb Tryd.f89) Tryd.func89 (by kernel_rfl) (by kernel_rfl) (by kernel_rfl) (by kernel_rfl) rfl ((S8 cS a.1).trans ((wK a.1).symm.trans hx)) h h') (fun h=>nomatch h)
end
end Go.Proofs.Plain04
