/- Walks by computing: what each function of the program that the laws reach gives for what it gets, as plain Lean, and that it is so; without a condition but those that stand in each theorem. -/
import Derived.Test.YtafnhieaeejlcaaDoorW1
import Derived.Test.YtafnhieaeejlcaaDoorW2
import Derived.Test.YtafnhieaeejlcaaDoorW3
import Derived.Test.YtafnhieaeejlcaaDoorW4
import Derived.Test.YtafnhieaeejlcaaDoorW5
import Derived.Test.YtafnhieaeejlcaaDoorW6
import Derived.Test.YtafnhieaeejlcaaDoorW7
import Derived.Test.YtafnhieaeejlcaaDoorW8
import Derived.Test.YtafnhieaeejlcaaDoorW9
import Derived.Test.YtafnhieaeejlcaaDoorW10
import Derived.Test.YtafnhieaeejlcaaDoorW11
import Derived.Test.YtafnhieaeejlcaaDoorW12
import Derived.Test.YtafnhieaeejlcaaDoorW13
import Derived.Test.YtafnhieaeejlcaaDoorW14
import Derived.Test.YtafnhieaeejlcaaDoorW15
import Derived.Test.YtafnhieaeejlcaaDoorW16
set_option linter.all false
namespace Go.Proofs.Plain04
open Go Go.Ab
open Go.Proofs.YtafnhieaeejlcaaDoor (av)
set_option linter.all false
set_option maxRecDepth 100000
noncomputable section
def HN(below:Int)(l2:List Int)(i:Int)(kn_:(List Int)→Int→Option (((List Int)×Unit)×Bool)):Option (((List Int)×Unit)×Bool):=
 bif (decide (i≥0))then
 aW (decide (0≤i)&&decide (i<(l2.length:Int)))<|
 aW (decide (i.toNat<l2.length))<|
 aW (decide (0≤i)&&decide (i<(l2.length:Int)))<|
 aW (decide (i.toNat<l2.length))<|
 aW (decide (0≤i)&&decide (i<((l2.set i.toNat (bz ((l2.getD i.toNat 0)+1))).length:Int)))<|
 aW (decide (i.toNat<(l2.set i.toNat (bz ((l2.getD i.toNat 0)+1))).length))<|
 bif (decide (((l2.set i.toNat (bz ((l2.getD i.toNat 0)+1))).getD i.toNat 0)<below))then
 some (((l2.set i.toNat (bz ((l2.getD i.toNat 0)+1))),()),true)
 else
 aW (decide (0≤i)&&decide (i<((l2.set i.toNat (bz ((l2.getD i.toNat 0)+1))).length:Int)))<|
 aW (decide (i.toNat<(l2.set i.toNat (bz ((l2.getD i.toNat 0)+1))).length))<|
 kn_ ((l2.set i.toNat (bz ((l2.getD i.toNat 0)+1))).set i.toNat 0) (bz (i-1))
 else
 some ((l2,()),false)
def NZ(it:It (((List Int)×Unit)×Bool))(l:List Int)(below:Int):Option (((List Int)×Unit)×Bool):=
 it _ (fun(v_0:((List Int)×Int×Unit)×(Unit)) kn=>HN below v_0.1.1 v_0.1.2.1 (fun y0 y1=>kn ((y0,y1,()),(())))) ((l,(bz ((l.length:Int)-1)),()),(()))
def count:((List Int)×Unit)→(Int×Unit)→Option (((List Int)×Unit)×Bool):=iR (fun x a=>NZ cS x.1 a.1)
def m8(it:It (List Int))(s:List Int):Option (List Int):=
 rq s.isEmpty
 (some ([]:List Int))
 (aW (gU (([]:List Int).length+s.length) 8)<|
 some (([]:List Int)++s))
def kg:(List Int)→Option (List Int):=iR (fun s=>m8 cS s)
theorem sg(s:List Int):kg s=m8 cS s:=by unfold kg;rw[cd]
def QJ:dC av:=⟨⟨8,[],[],[],[],[],[],[],[],[],[],[],[],true⟩,[]⟩
theorem Rr(it:It (List Int))(s:List Int):Af (.sl (.int .i64)) 0 3 (.int .i64) it QJ (bb Tryd.f103) Tryd.f103.results.toList (b6 [.sl (.int .i64)] (s,()))=m8 it s:=by kernel_rfl
def PD:jZ av.toSeat:=Ao av.toSeat 103 [.sl (.int .i64)] (.sl (.int .i64)) 0 3 (.int .i64) (fun a=>kg a.1) (fun a x hx l d hd h=>nj (Z:=av) (ats:=[.sl (.int .i64)]) (E:=QJ) (fn:=Tryd.f103) (c:=bb Tryd.f103) Tryd.func103 (by kernel_rfl) (by kernel_rfl) (by kernel_rfl) (by kernel_rfl) rfl ((Rr cS a.1).trans ((sg a.1).symm.trans hx)) hd h)
def jU(it:It (List Truck))(s:List Truck):Option (List Truck):=
 rq s.isEmpty
 (some ([]:List Truck))
 (aW (gU (([]:List Truck).length+s.length) 56)<|
 some (([]:List Truck)++s))
def jC:(List Truck)→Option (List Truck):=iR (fun s=>jU cS s)
theorem oY(s:List Truck):jC s=jU cS s:=by unfold jC;rw[cd]
def PI:dC av:=⟨⟨8,[],[],[],[],[],[],[],[],[],[],[],[],true⟩,[]⟩
theorem RA(it:It (List Truck))(s:List Truck):Af (.sl .Truck) 0 50 .Truck it PI (bb Tryd.f120) Tryd.f120.results.toList (b6 [.sl .Truck] (s,()))=jU it s:=by kernel_rfl
def Qv:jZ av.toSeat:=Ao av.toSeat 120 [.sl .Truck] (.sl .Truck) 0 50 .Truck (fun a=>jC a.1) (fun a x hx l d hd h=>nj (Z:=av) (ats:=[.sl .Truck]) (E:=PI) (fn:=Tryd.f120) (c:=bb Tryd.f120) Tryd.func120 (by kernel_rfl) (by kernel_rfl) (by kernel_rfl) (by kernel_rfl) rfl ((RA cS a.1).trans ((oY a.1).symm.trans hx)) hd h)
def uH(s:List Int)(x8:Int)(kn_:Int→Option Int):Option Int:=
 bif (decide (x8<(s.length:Int)))then
 aW (decide (0≤x8)&&decide (x8<(s.length:Int)))<|
 (kU (s.getD x8.toNat 0)).bind fun r=>
 bif r then
 some x8
 else
 kn_ (bz (x8+1))
 else
 some (-1)
def lB(it:It Int)(s:List Int)(f:Unit):Option Int:=
 it _ (fun(v_0:(Int×Unit)×(Unit)) kn=>uH s v_0.1.1 (fun y0=>kn ((y0,()),(())))) ((0,()),(()))
def jS:(List Int)→Unit→Option Int:=iR (fun s f=>lB cS s f)
theorem nq(s:List Int)(f:Unit):jS s f=lB cS s f:=by unfold jS;rw[cd]
def PX:dC av:=⟨⟨19,[Qd],[],[],[],[],[],[],[],[],[],[],[],true⟩,[(2,⟨⟨[(8, .v (.int .i64))],[]⟩,[0,1,7],[],[]⟩)]⟩
theorem Q8(it:It Int)(s:List Int)(f:Unit):fW (ts:=[.int .i64]) it PX (bb Tryd.f119) Tryd.f119.results.toList (b6 [.sl (.int .i64), .clo0 101] (s,f,()))=lB it s f:=by kernel_rfl
def P2:cK av.toSeat:=dK av.toSeat 119 [.sl (.int .i64), .clo0 101] [.int .i64] true (fun a=>jS a.1 a.2.1) (fun a x hx h h' =>bW (Z:=av) (ats:=[.sl (.int .i64), .clo0 101]) (ts:=[.int .i64]) (E:=PX) (fn:=Tryd.f119) (c:=bb Tryd.f119) Tryd.func119 (by kernel_rfl) (by kernel_rfl) (by kernel_rfl) (by kernel_rfl) rfl ((Q8 cS a.1 a.2.1).trans ((nq a.1 a.2.1).symm.trans hx)) h h') (fun _ x=>rfl)
def ji(it:It Bool)(s:List Int)(f:Unit):Option Bool:=
 (jS s ()).bind fun r=>
 some (decide (r≥0))
def fC:(List Int)→Unit→Option Bool:=iR (fun s f=>ji cS s f)
theorem kQ(s:List Int)(f:Unit):fC s f=ji cS s f:=by unfold fC;rw[cd]
def Pg:dC av:=⟨⟨9,[P2],[],[],[],[],[],[],[],[],[],[],[],true⟩,[]⟩
theorem Rp(it:It Bool)(s:List Int)(f:Unit):fW (ts:=[.bool]) it Pg (bb Tryd.f100) Tryd.f100.results.toList (b6 [.sl (.int .i64), .clo0 101] (s,f,()))=ji it s f:=by kernel_rfl
def P1:cK av.toSeat:=dK av.toSeat 100 [.sl (.int .i64), .clo0 101] [.bool] true (fun a=>fC a.1 a.2.1) (fun a x hx h h' =>bW (Z:=av) (ats:=[.sl (.int .i64), .clo0 101]) (ts:=[.bool]) (E:=Pg) (fn:=Tryd.f100) (c:=bb Tryd.f100) Tryd.func100 (by kernel_rfl) (by kernel_rfl) (by kernel_rfl) (by kernel_rfl) rfl ((Rp cS a.1 a.2.1).trans ((kQ a.1 a.2.1).symm.trans hx)) h h') (fun _ x=>rfl)
def Di(list:List Int)(starts:List Int)(x15:Int)(c_Length:Int)(c_Gap:Int)(c_Fails:Int)(c_Trucks:List Truck)(kn_:Int→Int→Int→Int→(List Truck)→Option Convoy):Option Convoy:=
 bif (decide (x15<(list.length:Int)))then
 aW (decide (0≤x15)&&decide (x15<(list.length:Int)))<|
 aW (decide (0≤(list.getD x15.toNat 0))&&decide ((list.getD x15.toNat 0)<(starts.length:Int)))<|
 aW (decide (0≤x15)&&decide (x15<(c_Trucks.length:Int)))<|
 aW (decide (x15.toNat<c_Trucks.length))<|
 kn_ (bz (x15+1)) c_Length c_Gap c_Fails (c_Trucks.set x15.toNat (⟨(c_Trucks.getD x15.toNat ax).Way,(starts.getD (list.getD x15.toNat 0).toNat 0),(c_Trucks.getD x15.toNat ax).Pace,(c_Trucks.getD x15.toNat ax).Holds⟩:Truck))
 else
 some (⟨c_Length,c_Gap,c_Fails,c_Trucks⟩:Convoy)
def tA(it:It Convoy)(c:Convoy)(starts:List Int)(list:List Int):Option Convoy:=
 (jC c.Trucks).bind fun r=>
 it _ (fun(v_0:(Unit×Unit×Int×Unit)×((Int×Int×Int×(List Truck)×Unit)×Unit)) kn=>Di list starts v_0.1.2.2.1 v_0.2.1.1 v_0.2.1.2.1 v_0.2.1.2.2.1 v_0.2.1.2.2.2.1 (fun y0 y1 y2 y3 y4=>kn (((),(),y0,()),((y1,y2,y3,y4,()),())))) (((),(),0,()),((c.Length,c.Gap,c.Fails,r,()),()))
def fR:Convoy→(List Int)→(List Int)→Option Convoy:=iR (fun c starts list=>tA cS c starts list)
theorem uD(c:Convoy)(starts:List Int)(list:List Int):fR c starts list=tA cS c starts list:=by unfold fR;rw[cd]
def Qk:dC av:=⟨⟨31,[],[],[],[Qv],[],[],[],[],[],[],[],[],true⟩,[(3,⟨⟨[(3, .bx 3 0),(6, .bx 6 0),(15, .v (.int .i64))],[(3,[.v (.int .i64), .v (.int .i64), .v (.int .i64), .os 11 50 .Truck])]⟩,[1,13,14],[6],[]⟩)]⟩
theorem RT(it:It Convoy)(c:Convoy)(starts:List Int)(list:List Int):fW (ts:=[.Convoy]) it Qk (bb Tryd.f102) Tryd.f102.results.toList (b6 [.Convoy, .sl (.int .i64), .sl (.int .i64)] (c,starts,list,()))=tA it c starts list:=by kernel_rfl
def Qa:cK av.toSeat:=dK av.toSeat 102 [.Convoy, .sl (.int .i64), .sl (.int .i64)] [.Convoy] false (fun a=>fR a.1 a.2.1 a.2.2.1) (fun a x hx h h' =>bW (Z:=av) (ats:=[.Convoy, .sl (.int .i64), .sl (.int .i64)]) (ts:=[.Convoy]) (E:=Qk) (fn:=Tryd.f102) (c:=bb Tryd.f102) Tryd.func102 (by kernel_rfl) (by kernel_rfl) (by kernel_rfl) (by kernel_rfl) rfl ((RT cS a.1 a.2.1 a.2.2.1).trans ((uD a.1 a.2.1 a.2.2.1).symm.trans hx)) h h') (fun h=>nomatch h)
def vT(starts:List Int)(c:Convoy)(x56:Int)(all:List (List br))(kn_:(List Int)→(List (List br))→Int→Option ((List Int)×Span×Int))(list2:List Int)(row:List br)(x61:Int)(kn_2:(List Int)→(List br)→Int→Option ((List Int)×Span×Int)):Option ((List Int)×Span×Int):=
 bif (decide (x61<(starts.length:Int)))then
 aW (Bz (c.Trucks.length:Int) 8)<|
 aW (decide (0≤x56)&&decide (x56<((List.replicate (c.Trucks.length:Int).toNat (0:Int)).length:Int)))<|
 aW (decide (x56.toNat<(List.replicate (c.Trucks.length:Int).toNat (0:Int)).length))<|
 (fR c starts ((List.replicate (c.Trucks.length:Int).toNat (0:Int)).set x56.toNat x61)).bind fun r3=>
 (rF r3).bind fun r4=>
 aW (decide (0≤x56)&&decide (x56<(r4.length:Int)))<|
 aW (gU (row.length+([(r4.getD x56.toNat gm)]:List br).length) 176)<|
 kn_2 list2 (row++([(r4.getD x56.toNat gm)]:List br)) (bz (x61+1))
 else
 aW (gU (all.length+[row].length) 24)<|
 kn_ list2 (all++[row]) (bz (x56+1))
def nU(x100:Int)(all:List (List br))(now:List Int)(c:Convoy)(kn_4:(List Int)→Bool→Int→Int→Option ((List Int)×Span×Int))(late:Int)(r5:Int)(list5:List Int)(fits2:Bool)(j:Int)(kn_5:(List Int)→Bool→Int→Option ((List Int)×Span×Int)):Option ((List Int)×Span×Int):=
 bif (decide (j<x100))then
 bif fits2 then
 aW (decide (0≤j)&&decide (j<(all.length:Int)))<|
 aW (decide (j.toNat<all.length))<|
 aW (decide (0≤j)&&decide (j<(now.length:Int)))<|
 aW (decide (j.toNat<now.length))<|
 aW (decide (0≤(now.getD j.toNat 0))&&decide ((now.getD j.toNat 0)<((all.getD j.toNat []).length:Int)))<|
 aW (decide (0≤x100)&&decide (x100<(all.length:Int)))<|
 aW (decide (x100.toNat<all.length))<|
 aW (decide (0≤(now.getD x100.toNat 0))&&decide ((now.getD x100.toNat 0)<((all.getD x100.toNat []).length:Int)))<|
 (apart (⟨c.Gap,c.Fails⟩:bE) ((all.getD j.toNat []).getD (now.getD j.toNat 0).toNat gm) ((all.getD x100.toNat []).getD (now.getD x100.toNat 0).toNat gm)).bind fun r6=>
 kn_5 list5 r6 (bz (j+1))
 else
 kn_4 list5 fits2 (max late r5) (bz (x100+1))
 else
 kn_4 list5 fits2 (max late r5) (bz (x100+1))
def nX(starts:List Int)(kn_3:(List Int)→(List Int)→Int→Int→Option ((List Int)×Span×Int))(late:Int)(c:Convoy)(list6:List Int)(now2:List Int)(i:Int)(kn_6:(List Int)→(List Int)→Int→Option ((List Int)×Span×Int)):Option ((List Int)×Span×Int):=
 bif (decide (i≥0))then
 aW (decide (0≤i)&&decide (i<(now2.length:Int)))<|
 aW (decide (i.toNat<now2.length))<|
 aW (decide (0≤i)&&decide (i<(now2.length:Int)))<|
 aW (decide (i.toNat<now2.length))<|
 aW (decide (0≤i)&&decide (i<((now2.set i.toNat (bz ((now2.getD i.toNat 0)+1))).length:Int)))<|
 aW (decide (i.toNat<(now2.set i.toNat (bz ((now2.getD i.toNat 0)+1))).length))<|
 bif (decide (((now2.set i.toNat (bz ((now2.getD i.toNat 0)+1))).getD i.toNat 0)<(starts.length:Int)))then
 aW (decide (0≤(bz (i+1)))&&decide ((bz (i+1))≤((now2.set i.toNat (bz ((now2.getD i.toNat 0)+1))).length:Int))&&decide (((now2.set i.toNat (bz ((now2.getD i.toNat 0)+1))).length:Int)≤((now2.set i.toNat (bz ((now2.getD i.toNat 0)+1))).length:Int)))<|
 aW (decide ((bz (i+1)).toNat+(((now2.set i.toNat (bz ((now2.getD i.toNat 0)+1))).length:Int).toNat-(bz (i+1)).toNat)≤(now2.set i.toNat (bz ((now2.getD i.toNat 0)+1))).length))<|
 kn_3 list6 (nE (now2.set i.toNat (bz ((now2.getD i.toNat 0)+1))) ((bz (i+1)).toNat) (((now2.set i.toNat (bz ((now2.getD i.toNat 0)+1))).length:Int).toNat-(bz (i+1)).toNat)) 0 late
 else
 kn_6 list6 (now2.set i.toNat (bz ((now2.getD i.toNat 0)+1))) (bz (i-1))
 else
 bif (list6.isEmpty)then
 some ([],(⟨0,0⟩:Span),7)
 else
 (fR c starts list6).bind fun r8=>
 (vq r8).bind fun r9=>
 some (list6,r9,0)
def la(starts:List Int)(kn_3:(List Int)→(List Int)→Int→Int→Option ((List Int)×Span×Int))(late:Int)(c:Convoy)(list7:List Int)(now3:List Int)(i2:Int)(kn_7:(List Int)→(List Int)→Int→Option ((List Int)×Span×Int)):Option ((List Int)×Span×Int):=
 bif (decide (i2≥0))then
 aW (decide (0≤i2)&&decide (i2<(now3.length:Int)))<|
 aW (decide (i2.toNat<now3.length))<|
 aW (decide (0≤i2)&&decide (i2<(now3.length:Int)))<|
 aW (decide (i2.toNat<now3.length))<|
 aW (decide (0≤i2)&&decide (i2<((now3.set i2.toNat (bz ((now3.getD i2.toNat 0)+1))).length:Int)))<|
 aW (decide (i2.toNat<(now3.set i2.toNat (bz ((now3.getD i2.toNat 0)+1))).length))<|
 bif (decide (((now3.set i2.toNat (bz ((now3.getD i2.toNat 0)+1))).getD i2.toNat 0)<(starts.length:Int)))then
 aW (decide (0≤(bz (i2+1)))&&decide ((bz (i2+1))≤((now3.set i2.toNat (bz ((now3.getD i2.toNat 0)+1))).length:Int))&&decide (((now3.set i2.toNat (bz ((now3.getD i2.toNat 0)+1))).length:Int)≤((now3.set i2.toNat (bz ((now3.getD i2.toNat 0)+1))).length:Int)))<|
 aW (decide ((bz (i2+1)).toNat+(((now3.set i2.toNat (bz ((now3.getD i2.toNat 0)+1))).length:Int).toNat-(bz (i2+1)).toNat)≤(now3.set i2.toNat (bz ((now3.getD i2.toNat 0)+1))).length))<|
 kn_3 list7 (nE (now3.set i2.toNat (bz ((now3.getD i2.toNat 0)+1))) ((bz (i2+1)).toNat) (((now3.set i2.toNat (bz ((now3.getD i2.toNat 0)+1))).length:Int).toNat-(bz (i2+1)).toNat)) 0 late
 else
 kn_7 list7 (now3.set i2.toNat (bz ((now3.getD i2.toNat 0)+1))) (bz (i2-1))
 else
 bif (list7.isEmpty)then
 some ([],(⟨0,0⟩:Span),7)
 else
 (fR c starts list7).bind fun r11=>
 (vq r11).bind fun r12=>
 some (list7,r12,0)
def eB(starts:List Int)(kn_3:(List Int)→(List Int)→Int→Int→Option ((List Int)×Span×Int))(best_Lo:Int)(best_Hi:Int)(c:Convoy)(list8:List Int)(now4:List Int)(i3:Int)(kn_8:(List Int)→(List Int)→Int→Option ((List Int)×Span×Int)):Option ((List Int)×Span×Int):=
 bif (decide (i3≥0))then
 aW (decide (0≤i3)&&decide (i3<(now4.length:Int)))<|
 aW (decide (i3.toNat<now4.length))<|
 aW (decide (0≤i3)&&decide (i3<(now4.length:Int)))<|
 aW (decide (i3.toNat<now4.length))<|
 aW (decide (0≤i3)&&decide (i3<((now4.set i3.toNat (bz ((now4.getD i3.toNat 0)+1))).length:Int)))<|
 aW (decide (i3.toNat<(now4.set i3.toNat (bz ((now4.getD i3.toNat 0)+1))).length))<|
 bif (decide (((now4.set i3.toNat (bz ((now4.getD i3.toNat 0)+1))).getD i3.toNat 0)<(starts.length:Int)))then
 aW (decide (0≤(bz (i3+1)))&&decide ((bz (i3+1))≤((now4.set i3.toNat (bz ((now4.getD i3.toNat 0)+1))).length:Int))&&decide (((now4.set i3.toNat (bz ((now4.getD i3.toNat 0)+1))).length:Int)≤((now4.set i3.toNat (bz ((now4.getD i3.toNat 0)+1))).length:Int)))<|
 aW (decide ((bz (i3+1)).toNat+(((now4.set i3.toNat (bz ((now4.getD i3.toNat 0)+1))).length:Int).toNat-(bz (i3+1)).toNat)≤(now4.set i3.toNat (bz ((now4.getD i3.toNat 0)+1))).length))<|
 kn_3 list8 (nE (now4.set i3.toNat (bz ((now4.getD i3.toNat 0)+1))) ((bz (i3+1)).toNat) (((now4.set i3.toNat (bz ((now4.getD i3.toNat 0)+1))).length:Int).toNat-(bz (i3+1)).toNat)) best_Lo best_Hi
 else
 kn_8 list8 (now4.set i3.toNat (bz ((now4.getD i3.toNat 0)+1))) (bz (i3-1))
 else
 bif (list8.isEmpty)then
 some ([],(⟨0,0⟩:Span),7)
 else
 (fR c starts list8).bind fun r13=>
 (vq r13).bind fun r14=>
 some (list8,r14,0)
def lr(starts:List Int)(kn_3:(List Int)→(List Int)→Int→Int→Option ((List Int)×Span×Int))(best_Lo:Int)(best_Hi:Int)(c:Convoy)(list9:List Int)(now5:List Int)(i4:Int)(kn_9:(List Int)→(List Int)→Int→Option ((List Int)×Span×Int)):Option ((List Int)×Span×Int):=
 bif (decide (i4≥0))then
 aW (decide (0≤i4)&&decide (i4<(now5.length:Int)))<|
 aW (decide (i4.toNat<now5.length))<|
 aW (decide (0≤i4)&&decide (i4<(now5.length:Int)))<|
 aW (decide (i4.toNat<now5.length))<|
 aW (decide (0≤i4)&&decide (i4<((now5.set i4.toNat (bz ((now5.getD i4.toNat 0)+1))).length:Int)))<|
 aW (decide (i4.toNat<(now5.set i4.toNat (bz ((now5.getD i4.toNat 0)+1))).length))<|
 bif (decide (((now5.set i4.toNat (bz ((now5.getD i4.toNat 0)+1))).getD i4.toNat 0)<(starts.length:Int)))then
 aW (decide (0≤(bz (i4+1)))&&decide ((bz (i4+1))≤((now5.set i4.toNat (bz ((now5.getD i4.toNat 0)+1))).length:Int))&&decide (((now5.set i4.toNat (bz ((now5.getD i4.toNat 0)+1))).length:Int)≤((now5.set i4.toNat (bz ((now5.getD i4.toNat 0)+1))).length:Int)))<|
 aW (decide ((bz (i4+1)).toNat+(((now5.set i4.toNat (bz ((now5.getD i4.toNat 0)+1))).length:Int).toNat-(bz (i4+1)).toNat)≤(now5.set i4.toNat (bz ((now5.getD i4.toNat 0)+1))).length))<|
 kn_3 list9 (nE (now5.set i4.toNat (bz ((now5.getD i4.toNat 0)+1))) ((bz (i4+1)).toNat) (((now5.set i4.toNat (bz ((now5.getD i4.toNat 0)+1))).length:Int).toNat-(bz (i4+1)).toNat)) best_Lo best_Hi
 else
 kn_9 list9 (now5.set i4.toNat (bz ((now5.getD i4.toNat 0)+1))) (bz (i4-1))
 else
 bif (list9.isEmpty)then
 some ([],(⟨0,0⟩:Span),7)
 else
 (fR c starts list9).bind fun r15=>
 (vq r15).bind fun r16=>
 some (list9,r16,0)
def oB(it:It ((List Int)×Span×Int))(now:List Int)(all:List (List br))(c:Convoy)(starts:List Int)(kn_3:(List Int)→(List Int)→Int→Int→Option ((List Int)×Span×Int))(best_Hi:Int)(best_Lo:Int)(list4:List Int)(fits:Bool)(late:Int)(x100:Int)(kn_4:(List Int)→Bool→Int→Int→Option ((List Int)×Span×Int)):Option ((List Int)×Span×Int):=
 bif (decide (x100<(now.length:Int)))then
 aW (decide (0≤x100)&&decide (x100<(now.length:Int)))<|
 aW (decide (x100.toNat<now.length))<|
 aW (decide (0≤x100)&&decide (x100<(all.length:Int)))<|
 aW (decide (x100.toNat<all.length))<|
 aW (decide (0≤(now.getD x100.toNat 0))&&decide ((now.getD x100.toNat 0)<((all.getD x100.toNat []).length:Int)))<|
 (kS (((all.getD x100.toNat []).getD (now.getD x100.toNat 0).toNat gm).a)).bind fun r5=>
 it _ (fun(v_0:(Unit×(List Int)×Unit×Unit×Unit×Unit×Bool×Int×Unit×Unit)×(Unit)) kn=>nU x100 all now c kn_4 late r5 v_0.1.2.1 v_0.1.2.2.2.2.2.2.1 v_0.1.2.2.2.2.2.2.2.1 (fun y0 y1 y2=>kn (((),y0,(),(),(),(),y1,y2,(),()),(())))) (((),list4,(),(),(),(),fits,0,(),()),(()))
 else
 bif fits then
 bif (list4.isEmpty)then
 (kg now).bind fun r7=>
 aW (!r7.isEmpty)<|
 it _ (fun(v_0:(Unit×(List Int)×Unit×Unit×Unit×(List Int)×Int×Unit)×(Unit)) kn=>nX starts kn_3 late c v_0.1.2.1 v_0.1.2.2.2.2.2.1 v_0.1.2.2.2.2.2.2.1 (fun y0 y1 y2=>kn (((),y0,(),(),(),y1,y2,()),(())))) (((),r7,(),(),(),now,(bz ((now.length:Int)-1)),()),(()))
 else
 bif (decide (late<best_Hi))then
 (kg now).bind fun r10=>
 aW (!r10.isEmpty)<|
 it _ (fun(v_0:(Unit×(List Int)×Unit×Unit×Unit×(List Int)×Int×Unit)×(Unit)) kn=>la starts kn_3 late c v_0.1.2.1 v_0.1.2.2.2.2.2.1 v_0.1.2.2.2.2.2.2.1 (fun y0 y1 y2=>kn (((),y0,(),(),(),y1,y2,()),(())))) (((),r10,(),(),(),now,(bz ((now.length:Int)-1)),()),(()))
 else
 it _ (fun(v_0:(Unit×(List Int)×Unit×Unit×Unit×(List Int)×Int×Unit)×(Unit)) kn=>eB starts kn_3 best_Lo best_Hi c v_0.1.2.1 v_0.1.2.2.2.2.2.1 v_0.1.2.2.2.2.2.2.1 (fun y0 y1 y2=>kn (((),y0,(),(),(),y1,y2,()),(())))) (((),list4,(),(),(),now,(bz ((now.length:Int)-1)),()),(()))
 else
 it _ (fun(v_0:(Unit×(List Int)×Unit×Unit×Unit×(List Int)×Int×Unit)×(Unit)) kn=>lr starts kn_3 best_Lo best_Hi c v_0.1.2.1 v_0.1.2.2.2.2.2.1 v_0.1.2.2.2.2.2.2.1 (fun y0 y1 y2=>kn (((),y0,(),(),(),y1,y2,()),(())))) (((),list4,(),(),(),now,(bz ((now.length:Int)-1)),()),(()))
def qP(it:It ((List Int)×Span×Int))(all:List (List br))(c:Convoy)(starts:List Int)(list3:List Int)(now:List Int)(best_Lo:Int)(best_Hi:Int)(kn_3:(List Int)→(List Int)→Int→Int→Option ((List Int)×Span×Int)):Option ((List Int)×Span×Int):=
 it _ (fun(v_0:(Unit×(List Int)×Unit×Unit×Unit×Unit×Bool×Int×Unit×Int×Unit)×(Unit)) kn=>oB it now all c starts kn_3 best_Hi best_Lo v_0.1.2.1 v_0.1.2.2.2.2.2.2.1 v_0.1.2.2.2.2.2.2.2.1 v_0.1.2.2.2.2.2.2.2.2.2.1 (fun y0 y1 y2 y3=>kn (((),y0,(),(),(),(),y1,y2,(),y3,()),(())))) (((),list3,(),(),(),(),true,0,(),0,()),(()))
def xd(it:It ((List Int)×Span×Int))(c:Convoy)(starts:List Int)(list:List Int)(all:List (List br))(x56:Int)(kn_:(List Int)→(List (List br))→Int→Option ((List Int)×Span×Int)):Option ((List Int)×Span×Int):=
 bif (decide (x56<(c.Trucks.length:Int)))then
 it _ (fun(v_0:(Unit×(List Int)×Unit×Unit×(List br)×Int×Unit)×(Unit)) kn=>vT starts c x56 all kn_ v_0.1.2.1 v_0.1.2.2.2.2.1 v_0.1.2.2.2.2.2.1 (fun y0 y1 y2=>kn (((),y0,(),(),y1,y2,()),(())))) (((),list,(),(),([]:List br),0,()),(()))
 else
 aW (Bz (c.Trucks.length:Int) 8)<|
 it _ (fun(v_0:(Unit×(List Int)×Unit×Unit×Unit×(List Int)×Unit)×((Int×Int×Unit)×Unit)) kn=>qP it all c starts v_0.1.2.1 v_0.1.2.2.2.2.2.1 v_0.2.1.1 v_0.2.1.2.1 (fun y0 y1 y2 y3=>kn (((),y0,(),(),(),y1,()),((y2,y3,()),())))) (((),list,(),(),(),(List.replicate (c.Trucks.length:Int).toNat (0:Int)),()),((0,0,()),()))
def nQ(it:It ((List Int)×Span×Int))(c:Convoy)(starts:List Int):Option ((List Int)×Span×Int):=
 (vM c).bind fun r=>
 bif (r !=0)then
 some ([],(⟨0,0⟩:Span),r)
 else
 bif ((c.Trucks.length:Int)==0)then
 some ([],(⟨0,0⟩:Span),6)
 else
 bif ((starts.length:Int)==0)then
 some ([],(⟨0,0⟩:Span),6)
 else
 bif (decide ((c.Trucks.length:Int)>5))then
 some ([],(⟨0,0⟩:Span),8)
 else
 bif (decide ((starts.length:Int)>6))then
 some ([],(⟨0,0⟩:Span),8)
 else
 (fC starts ()).bind fun r2=>
 bif r2 then
 some ([],(⟨0,0⟩:Span),2)
 else
 it _ (fun(v_0:(Unit×(List Int)×Unit×(List (List br))×Int×Unit)×(Unit)) kn=>xd it c starts v_0.1.2.1 v_0.1.2.2.2.1 v_0.1.2.2.2.2.1 (fun y0 y1 y2=>kn (((),y0,(),y1,y2,()),(())))) (((),[],(),([]:List (List br)),0,()),(()))
def kK:Convoy→(List Int)→Option ((List Int)×Span×Int):=iR (fun c starts=>nQ cS c starts)
theorem pU(c:Convoy)(starts:List Int):kK c starts=nQ cS c starts:=by unfold kK;rw[cd]
def Sc:dC av:=⟨⟨192,[TB,P1,Qa,RF,QG,QZ,TJ],[],[],[PD],[],[],[],[],[],[],[4,81,86,156,182],[],true⟩,[(12,⟨⟨[(2, .bx 2 0),(4, .vn (.int .i64)),(5, .bx 5 0),(8, .os 8 128 (.sl .br)),(56, .v (.int .i64))],[]⟩,[1,55],[2,5],[]⟩),(16,⟨⟨[(2, .bx 2 0),(4, .vn (.int .i64)),(5, .bx 5 0),(8, .osr 8),(10, .os 10 132 .br),(61, .v (.int .i64))],[]⟩,[9,56,60],[8],[]⟩),(28,⟨⟨[(2, .bx 2 0),(4, .vn (.int .i64)),(5, .bx 5 0),(8, .osr 8),(13, .bx 13 0),(14, .osr 97),(15, .v .bool),(16, .v (.int .i64)),(98, .osr 97),(100, .v (.int .i64))],[]⟩,[99],[5,97],[]⟩),(32,⟨⟨[(2, .bx 2 0),(4, .vn (.int .i64)),(5, .bx 5 0),(8, .osr 8),(13, .bx 13 0),(14, .osr 97),(15, .v .bool),(19, .v (.int .i64)),(98, .osr 97)],[]⟩,[16,17,18,100],[],[]⟩),(39,⟨⟨[(2, .bx 2 0),(4, .vn (.int .i64)),(5, .bx 5 0),(8, .osr 8),(13, .bx 13 0),(14, .os 97 3 (.int .i64)),(20, .v (.int .i64))],[]⟩,[],[5],[]⟩),(500006,⟨⟨[(2, .bx 2 0),(4, .vn (.int .i64)),(5, .bx 5 0),(8, .osr 8),(13, .bx 13 0),(14, .os 97 3 (.int .i64))],[(5,[.v (.int .i64), .v (.int .i64)])]⟩,[1],[2,8,13],[]⟩)]⟩
theorem Tv(it:It ((List Int)×Span×Int))(c:Convoy)(starts:List Int):fW (ts:=[.sl (.int .i64), .Span, .int .i64]) it Sc (bb Tryd.f60) Tryd.f60.results.toList (b6 [.Convoy, .sl (.int .i64)] (c,starts,()))=nQ it c starts:=by kernel_rfl
def RX:cK av.toSeat:=dK av.toSeat 60 [.Convoy, .sl (.int .i64)] [.sl (.int .i64), .Span, .int .i64] false (fun a=>kK a.1 a.2.1) (fun a x hx h h' =>bW (Z:=av) (ats:=[.Convoy, .sl (.int .i64)]) (ts:=[.sl (.int .i64), .Span, .int .i64]) (E:=Sc) (fn:=Tryd.f60) (c:=bb Tryd.f60) Tryd.func60 (by kernel_rfl) (by kernel_rfl) (by kernel_rfl) (by kernel_rfl) rfl ((Tv cS a.1 a.2.1).trans ((pU a.1 a.2.1).symm.trans hx)) h h') (fun h=>nomatch h)
end
end Go.Proofs.Plain04
