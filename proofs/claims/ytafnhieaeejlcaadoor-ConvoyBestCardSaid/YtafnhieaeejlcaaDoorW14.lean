/- Walks by computing: what each function of the program that the laws reach gives for what it gets, as plain Lean, and that it is so; without a condition but those that stand in each theorem. -/
import Derived.Test.YtafnhieaeejlcaaDoorW1
import Derived.Test.YtafnhieaeejlcaaDoorW2
import Derived.Test.YtafnhieaeejlcaaDoorW3
import Derived.Test.YtafnhieaeejlcaaDoorW4
import Derived.Test.YtafnhieaeejlcaaDoorW5
import Derived.Test.YtafnhieaeejlcaaDoorW6
import Derived.Test.YtafnhieaeejlcaaDoorW7
import Derived.Test.YtafnhieaeejlcaaDoorW8
import Derived.Test.YtafnhieaeejlcaaDoorW9
import Derived.Test.YtafnhieaeejlcaaDoorW10
import Derived.Test.YtafnhieaeejlcaaDoorW11
import Derived.Test.YtafnhieaeejlcaaDoorW12
import Derived.Test.YtafnhieaeejlcaaDoorW13
set_option linter.all false
namespace Go.Proofs.Plain04
open Go Go.Ab
open Go.Proofs.YtafnhieaeejlcaaDoor (av cJ ai cg xS lK QO NB PK QP O7 RN)
set_option linter.all false
set_option maxRecDepth 100000
noncomputable section
def PL:Convoy→Option Bool:=iR fun c=>some (lK (oC c))
theorem I1(c:Convoy):PL c=some (lK (oC c)):=by unfold PL;rw[cd]
def sP:Option Bool:=iR (some true)
theorem ru:sP=some true:=by unfold sP;rw[cd]
def mn:Convoy→Option Convoy:=iR fun c=>aW (kG c) (some c)
theorem sL(c:Convoy):mn c=aW (kG c) (some c):=by unfold mn;rw[cd]
def jJ:Convoy→Convoy→Option Bool:=iR fun a b=>aW (rA a) (some (decide (oC a=oC b)))
theorem o5(a b:Convoy):jJ a b=aW (rA a) (some (decide (oC a=oC b))):=by unfold jJ;rw[cd]
def tk:Convoy→Option (bj×Int):=iR fun c=>some (ll c)
theorem tv(c:Convoy):tk c=some (ll c):=by unfold tk;rw[cd]
def qO:Convoy→Option (bj×Int):=iR fun c=>some (ll c)
theorem tJ(c:Convoy):qO c=some (ll c):=by unfold qO;rw[cd]
def Th:cK av.toSeat:=dK av.toSeat 18 [.Convoy] [.bool] true (fun a=>PL a.1) (fun a x hx h h' =>by
 replace hx:PL a.1=some x:=hx;rw[I1]at hx
 simp only[Option.some.injEq]at hx;subst hx
 show au av.toSeat 18 [(gy .Convoy a.1).bV h] (.bool (lK (oC a.1)))
 rw[wI];exact QO _) (fun _ x=>rfl)
def SQ:cK av.toSeat:=dK av.toSeat 19 [] [.bool] true (fun _=>sP) (fun a x hx h h' =>by
 replace hx:sP=some x:=hx;rw[ru]at hx
 simp only[Option.some.injEq]at hx;subst hx
 exact NB) (fun _ x=>rfl)
def TC:cK av.toSeat:=dK av.toSeat 20 [.Convoy] [.Convoy] false (fun a=>mn a.1) (fun a x hx h h' =>by
 replace hx:mn a.1=some x:=hx;rw[sL]at hx
 obtain⟨hc,hx⟩:=ak hx
 simp only[Option.some.injEq]at hx;subst hx
 simp only[kG,Bool.and_eq_true,decide_eq_true_eq]at hc
 show au av.toSeat 20 [(gy .Convoy a.1).bV h] ((gy .Convoy a.1).bV h')
 rw[wI,wI]
 exact PK _ (by simp only[oC,List.length_map];exact hc.1) (yN hc.2)) (fun h=>nomatch h)
def Tg:cK av.toSeat:=dK av.toSeat 23 [.Convoy, .Convoy] [.bool] true (fun a=>jJ a.1 a.2.1) (fun a x hx h h' =>by
 replace hx:jJ a.1 a.2.1=some x:=hx;rw[o5]at hx
 obtain⟨hc,hx⟩:=ak hx
 simp only[Option.some.injEq]at hx;subst hx
 simp only[rA,Bool.and_eq_true,decide_eq_true_eq]at hc
 show au av.toSeat 23 [(gy .Convoy a.1).bV h,(gy .Convoy a.2.1).bV h] (.bool (decide (oC a.1=oC a.2.1)))
 rw[wI,wI]
 exact QP _ _ (by simp only[oC,List.length_map];exact hc.1) (yN hc.2)) (fun _ x=>rfl)
def R9:cK av.toSeat:=dK av.toSeat 27 [.Convoy] [.bj, .int .i64] true (fun a=>tk a.1) (fun a x hx h h' =>by
 replace hx:tk a.1=some x:=hx;rw[tv]at hx
 simp only[Option.some.injEq]at hx;subst hx
 show au av.toSeat 27 [(gy .Convoy a.1).bV h] _
 rw[wI,Qf];exact O7 _) (fun _ x=>rfl)
def SB:cK av.toSeat:=dK av.toSeat 28 [.Convoy] [.bj, .int .i64] true (fun a=>qO a.1) (fun a x hx h h' =>by
 replace hx:qO a.1=some x:=hx;rw[tJ]at hx
 simp only[Option.some.injEq]at hx;subst hx
 show au av.toSeat 28 [(gy .Convoy a.1).bV h] _
 rw[wI,Qf];exact RN _) (fun _ x=>rfl)
end
end Go.Proofs.Plain04
namespace Go.Proofs.Plain04
open Go Go.Ab
open Go.Proofs.YtafnhieaeejlcaaDoor (av)
set_option linter.all false
set_option maxRecDepth 100000
noncomputable section
def next'(it:It (aK×Int))(s:aK):Option (aK×Int):=
 some ((⟨(IntKind.u64.wrap (s.word+11400714819323198485))⟩:aK),(DO .u64 (IntKind.u64.wrap ((DO .u64 (IntKind.u64.wrap ((DO .u64 (IntKind.u64.wrap (s.word+11400714819323198485)) (xB .u64 (IntKind.u64.wrap (s.word+11400714819323198485)) 30))*13787848793156543929)) (xB .u64 (IntKind.u64.wrap ((DO .u64 (IntKind.u64.wrap (s.word+11400714819323198485)) (xB .u64 (IntKind.u64.wrap (s.word+11400714819323198485)) 30))*13787848793156543929)) 27))*10723151780598845931)) (xB .u64 (IntKind.u64.wrap ((DO .u64 (IntKind.u64.wrap ((DO .u64 (IntKind.u64.wrap (s.word+11400714819323198485)) (xB .u64 (IntKind.u64.wrap (s.word+11400714819323198485)) 30))*13787848793156543929)) (xB .u64 (IntKind.u64.wrap ((DO .u64 (IntKind.u64.wrap (s.word+11400714819323198485)) (xB .u64 (IntKind.u64.wrap (s.word+11400714819323198485)) 30))*13787848793156543929)) 27))*10723151780598845931)) 31)))
def next:aK→Option (aK×Int):=iR (fun s=>next' cS s)
theorem Fv(s:aK):next s=next' cS s:=by unfold next;rw[cd]
def Ss:dC av:=⟨⟨30,[],[],[],[],[],[],[],[],[],[],[],[0],true⟩,[]⟩
theorem S7(it:It (aK×Int))(s:aK):lL (bt:= .aK) (ts:=[.int .u64]) it Ss (bb Tryd.f68) Tryd.f68.results.toList (bO .aK s) (b6 [] (()))=next' it s:=by kernel_rfl
def PU:eU av.toSeat:=jX av.toSeat 68 .aK [] [.int .u64] (fun b a=>next b) (fun b a y x hx h=>eK (Z:=av) (bt:= .aK) (ats:=[]) (ts:=[.int .u64]) (E:=Ss) (fn:=Tryd.f68) (c:=bb Tryd.f68) Tryd.func68 (by kernel_rfl) (by kernel_rfl) (by kernel_rfl) (by kernel_rfl) rfl ((S7 cS b).trans ((Fv b).symm.trans hx)) h)
def Ep(it:It (aK×Int))(s:aK)(n:Int):Option (aK×Int):=
 bif (decide (n<2))then
 some (s,0)
 else
 (next s).bind fun r=>
 aW ((IntKind.u64.wrap (n)) !=0)<|
 some (r.1,(bz (((xB .u64 r.2 1).tmod (IntKind.u64.wrap (n))))))
def Below:aK→Int→Option (aK×Int):=iR (fun s n=>Ep cS s n)
theorem BM(s:aK)(n:Int):Below s n=Ep cS s n:=by unfold Below;rw[cd]
def SF:dC av:=⟨⟨14,[],[PU],[],[],[],[],[],[],[],[],[],[0],true⟩,[]⟩
theorem Tq(it:It (aK×Int))(s:aK)(n:Int):lL (bt:= .aK) (ts:=[.int .i64]) it SF (bb Tryd.f32) Tryd.f32.results.toList (bO .aK s) (b6 [.int .i64] (n,()))=Ep it s n:=by kernel_rfl
def xN:eU av.toSeat:=jX av.toSeat 32 .aK [.int .i64] [.int .i64] (fun b a=>Below b a.1) (fun b a y x hx h=>eK (Z:=av) (bt:= .aK) (ats:=[.int .i64]) (ts:=[.int .i64]) (E:=SF) (fn:=Tryd.f32) (c:=bb Tryd.f32) Tryd.func32 (by kernel_rfl) (by kernel_rfl) (by kernel_rfl) (by kernel_rfl) rfl ((Tq cS b a.1).trans ((BM b a.1).symm.trans hx)) h)
def M4(it:It (aK×Bool))(s:aK)(n:Int):Option (aK×Bool):=
 (Below s n).bind fun r=>
 some (r.1,(r.2==0))
def P5:aK→Int→Option (aK×Bool):=iR (fun s n=>M4 cS s n)
theorem JK(s:aK)(n:Int):P5 s n=M4 cS s n:=by unfold P5;rw[cd]
def Sa:dC av:=⟨⟨9,[],[xN],[],[],[],[],[],[],[],[],[],[0],true⟩,[]⟩
theorem Te(it:It (aK×Bool))(s:aK)(n:Int):lL (bt:= .aK) (ts:=[.bool]) it Sa (bb Tryd.f33) Tryd.f33.results.toList (bO .aK s) (b6 [.int .i64] (n,()))=M4 it s n:=by kernel_rfl
def RZ:eU av.toSeat:=jX av.toSeat 33 .aK [.int .i64] [.bool] (fun b a=>P5 b a.1) (fun b a y x hx h=>eK (Z:=av) (bt:= .aK) (ats:=[.int .i64]) (ts:=[.bool]) (E:=Sa) (fn:=Tryd.f33) (c:=bb Tryd.f33) Tryd.func33 (by kernel_rfl) (by kernel_rfl) (by kernel_rfl) (by kernel_rfl) rfl ((Te cS b a.1).trans ((JK b a.1).symm.trans hx)) h)
def Jv(it:It (aK×Int))(s:aK)(low:Int)(high:Int):Option (aK×Int):=
 (Below s (bz ((bz (high-low))+1))).bind fun r=>
 some (r.1,(bz (low+r.2)))
def wj:aK→Int→Int→Option (aK×Int):=iR (fun s low high=>Jv cS s low high)
theorem FH(s:aK)(low:Int)(high:Int):wj s low high=Jv cS s low high:=by unfold wj;rw[cd]
def Sr:dC av:=⟨⟨15,[],[xN],[],[],[],[],[],[],[],[],[],[0],true⟩,[]⟩
theorem TE(it:It (aK×Int))(s:aK)(low:Int)(high:Int):lL (bt:= .aK) (ts:=[.int .i64]) it Sr (bb Tryd.f35) Tryd.f35.results.toList (bO .aK s) (b6 [.int .i64, .int .i64] (low,high,()))=Jv it s low high:=by kernel_rfl
def JP:eU av.toSeat:=jX av.toSeat 35 .aK [.int .i64, .int .i64] [.int .i64] (fun b a=>wj b a.1 a.2.1) (fun b a y x hx h=>eK (Z:=av) (bt:= .aK) (ats:=[.int .i64, .int .i64]) (ts:=[.int .i64]) (E:=Sr) (fn:=Tryd.f35) (c:=bb Tryd.f35) Tryd.func35 (by kernel_rfl) (by kernel_rfl) (by kernel_rfl) (by kernel_rfl) rfl ((TE cS b a.1 a.2.1).trans ((FH b a.1 a.2.1).symm.trans hx)) h)
def QY(it:It (aK×Int))(s:aK)(l:List Int):Option (aK×Int):=
 bif ((l.length:Int)==0)then
 some (s,0)
 else
 (Below s (l.length:Int)).bind fun r=>
 aW (decide (0≤r.2)&&decide (r.2<(l.length:Int)))<|
 some (r.1,(l.getD r.2.toNat 0))
def Of:aK→(List Int)→Option (aK×Int):=iR (fun s l=>QY cS s l)
theorem L8(s:aK)(l:List Int):Of s l=QY cS s l:=by unfold Of;rw[cd]
def Sd:dC av:=⟨⟨15,[],[xN],[],[],[],[],[],[],[],[],[],[0],true⟩,[]⟩
theorem TG(it:It (aK×Int))(s:aK)(l:List Int):lL (bt:= .aK) (ts:=[.int .i64]) it Sd (bb Tryd.f45) Tryd.f45.results.toList (bO .aK s) (b6 [.sl (.int .i64)] (l,()))=QY it s l:=by kernel_rfl
def KI:eU av.toSeat:=jX av.toSeat 45 .aK [.sl (.int .i64)] [.int .i64] (fun b a=>Of b a.1) (fun b a y x hx h=>eK (Z:=av) (bt:= .aK) (ats:=[.sl (.int .i64)]) (ts:=[.int .i64]) (E:=Sd) (fn:=Tryd.f45) (c:=bb Tryd.f45) Tryd.func45 (by kernel_rfl) (by kernel_rfl) (by kernel_rfl) (by kernel_rfl) rfl ((TG cS b a.1).trans ((L8 b a.1).symm.trans hx)) h)
def Ew(length:Int)(at_:Int)(i:Int)(s_word:Int)(t_Way:Int)(t_Start:Int)(t_Pace_Lo:Int)(t_Pace_Hi:Int)(t_Holds:List Hold)(kn_:Int→Int→Int→Int→Int→Int→Int→(List Hold)→Option (aK×Truck)):Option (aK×Truck):=
 bif (decide (i>0))then
 bif (decide (at_<(bz (length-1))))then
 (wj (⟨s_word⟩:aK) (bz (at_+1)) (bz (length-1))).bind fun r9=>
 (Below r9.1 150).bind fun r10=>
 bif (t_Way==2)then
 aW (gU (t_Holds.length+([(⟨(bz (length-r9.2)),r10.2⟩:Hold)]:List Hold).length) 16)<|
 kn_ r9.2 (bz (i-1)) r10.1.word t_Way t_Start t_Pace_Lo t_Pace_Hi (t_Holds++([(⟨(bz (length-r9.2)),r10.2⟩:Hold)]:List Hold))
 else
 aW (gU (t_Holds.length+([(⟨r9.2,r10.2⟩:Hold)]:List Hold).length) 16)<|
 kn_ r9.2 (bz (i-1)) r10.1.word t_Way t_Start t_Pace_Lo t_Pace_Hi (t_Holds++([(⟨r9.2,r10.2⟩:Hold)]:List Hold))
 else
 some ((⟨s_word⟩:aK),(⟨t_Way,t_Start,⟨t_Pace_Lo,t_Pace_Hi⟩,t_Holds⟩:Truck))
 else
 some ((⟨s_word⟩:aK),(⟨t_Way,t_Start,⟨t_Pace_Lo,t_Pace_Hi⟩,t_Holds⟩:Truck))
def ve(it:It (aK×Truck))(s:aK)(length:Int)(holds:Int):Option (aK×Truck):=
 (wj s 1 2).bind fun r=>
 (Below r.1 60).bind fun r2=>
 (Below r2.1 200).bind fun r3=>
 (Of r3.1 [0,r2.2,r3.2]).bind fun r4=>
 (wj r4.1 5 25).bind fun r5=>
 (Below r5.1 8).bind fun r6=>
 (Of r6.1 [0,r6.2]).bind fun r7=>
 (Below r7.1 (bz (holds+1))).bind fun r8=>
 it _ (fun(v_0:(Unit×Unit×Unit×Int×Int×Unit)×((Int×Unit)×(Int×Int×Int×Int×(List Hold)×Unit)×Unit)) kn=>Ew length v_0.1.2.2.2.1 v_0.1.2.2.2.2.1 v_0.2.1.1 v_0.2.2.1.1 v_0.2.2.1.2.1 v_0.2.2.1.2.2.1 v_0.2.2.1.2.2.2.1 v_0.2.2.1.2.2.2.2.1 (fun y0 y1 y2 y3 y4 y5 y6 y7=>kn (((),(),(),y0,y1,()),((y2,()),(y3,y4,y5,y6,y7,()),())))) (((),(),(),0,r8.2,()),((r8.1.word,()),(r.2,r4.2,r5.2,(bz (r5.2+r7.2)),[],()),()))
def j3:aK→Int→Int→Option (aK×Truck):=iR (fun s length holds=>ve cS s length holds)
theorem qL(s:aK)(length:Int)(holds:Int):j3 s length holds=ve cS s length holds:=by unfold j3;rw[cd]
def SU:dC av:=⟨⟨74,[],[JP,xN,KI],[],[],[],[],[],[],[],[],[18,31,70],[0],true⟩,[(6,⟨⟨[(0, .bx 0 0),(6, .bx 6 0),(7, .bx 7 0),(8, .v (.int .i64)),(9, .v (.int .i64))],[(0,[.v (.int .u64)]),(7,[.v (.int .i64), .v (.int .i64), .v (.int .i64), .v (.int .i64), .os 71 89 .Hold])]⟩,[1],[6],[]⟩)]⟩
theorem TI(it:It (aK×Truck))(s:aK)(length:Int)(holds:Int):lL (bt:= .aK) (ts:=[.Truck]) it SU (bb Tryd.f46) Tryd.f46.results.toList (bO .aK s) (b6 [.int .i64, .int .i64] (length,holds,()))=ve it s length holds:=by kernel_rfl
def L1:eU av.toSeat:=jX av.toSeat 46 .aK [.int .i64, .int .i64] [.Truck] (fun b a=>j3 b a.1 a.2.1) (fun b a y x hx h=>eK (Z:=av) (bt:= .aK) (ats:=[.int .i64, .int .i64]) (ts:=[.Truck]) (E:=SU) (fn:=Tryd.f46) (c:=bb Tryd.f46) Tryd.func46 (by kernel_rfl) (by kernel_rfl) (by kernel_rfl) (by kernel_rfl) rfl ((TI cS b a.1 a.2.1).trans ((qL b a.1 a.2.1).symm.trans hx)) h)
def KE(s:aK)(i:Int)(c_Length:Int)(c_Gap:Int)(c_Fails:Int)(c_Trucks:List Truck)(kn_:Int→Int→Int→Int→(List Truck)→Option (aK×Convoy)):Option (aK×Convoy):=
 bif (decide (i<(c_Trucks.length:Int)))then
 aW (decide (0≤i)&&decide (i<(c_Trucks.length:Int)))<|
 kn_ (bz (i+1)) c_Length (max c_Gap (bz (2*(c_Trucks.getD i.toNat ax).Pace.Hi))) c_Fails c_Trucks
 else
 (Below s 30).bind fun r=>
 (Of r.1 [0,r.2]).bind fun r2=>
 some (r2.1,(⟨c_Length,(bz (c_Gap+r2.2)),c_Fails,c_Trucks⟩:Convoy))
def IJ(it:It (aK×Convoy))(s:aK)(c:Convoy):Option (aK×Convoy):=
 it _ (fun(v_0:(Unit×Unit×Unit×Int×Unit)×((Int×Int×Int×(List Truck)×Unit)×Unit)) kn=>KE s v_0.1.2.2.2.1 v_0.2.1.1 v_0.2.1.2.1 v_0.2.1.2.2.1 v_0.2.1.2.2.2.1 (fun y0 y1 y2 y3 y4=>kn (((),(),(),y0,()),((y1,y2,y3,y4,()),())))) (((),(),(),0,()),((c.Length,1,c.Fails,c.Trucks,()),()))
def wide:aK→Convoy→Option (aK×Convoy):=iR (fun s c=>IJ cS s c)
theorem FZ(s:aK)(c:Convoy):wide s c=IJ cS s c:=by unfold wide;rw[cd]
def Sg:dC av:=⟨⟨36,[],[xN,KI],[],[],[],[],[],[],[],[],[31],[0],true⟩,[(3,⟨⟨[(0, .bx 0 0),(3, .bx 3 0),(4, .bx 4 0),(5, .v (.int .i64))],[(3,[.v (.int .i64), .v (.int .i64), .v (.int .i64), .v (.sl .Truck)])]⟩,[],[0,4],[]⟩)]⟩
theorem Tx(it:It (aK×Convoy))(s:aK)(c:Convoy):lL (bt:= .aK) (ts:=[.Convoy]) it Sg (bb Tryd.f69) Tryd.f69.results.toList (bO .aK s) (b6 [.Convoy] (c,()))=IJ it s c:=by kernel_rfl
def Rj:eU av.toSeat:=jX av.toSeat 69 .aK [.Convoy] [.Convoy] (fun b a=>wide b a.1) (fun b a y x hx h=>eK (Z:=av) (bt:= .aK) (ats:=[.Convoy]) (ts:=[.Convoy]) (E:=Sg) (fn:=Tryd.f69) (c:=bb Tryd.f69) Tryd.func69 (by kernel_rfl) (by kernel_rfl) (by kernel_rfl) (by kernel_rfl) rfl ((Tx cS b a.1).trans ((FZ b a.1).symm.trans hx)) h)
def BD(i:Int)(s_word:Int)(c_Length:Int)(c_Gap:Int)(c_Fails:Int)(c_Trucks:List Truck)(kn_:Int→Int→Int→Int→Int→(List Truck)→Option (aK×Convoy)):Option (aK×Convoy):=
 bif (decide (i>0))then
 (j3 (⟨s_word⟩:aK) c_Length 3).bind fun r4=>
 aW (gU (c_Trucks.length+([r4.2]:List Truck).length) 56)<|
 kn_ (bz (i-1)) r4.1.word c_Length c_Gap c_Fails (c_Trucks++([r4.2]:List Truck))
 else
 (wide (⟨s_word⟩:aK) (⟨c_Length,c_Gap,c_Fails,c_Trucks⟩:Convoy)).bind fun r5=>
 some (r5.1,r5.2)
def tQ(it:It (aK×Convoy))(s:aK)(most_:Int):Option (aK×Convoy):=
 (wj s 20 400).bind fun r=>
 (Below r.1 3).bind fun r2=>
 (Below r2.1 (bz (most_+1))).bind fun r3=>
 it _ (fun(v_0:(Unit×Unit×Unit×Int×Unit)×((Int×Unit)×(Int×Int×Int×(List Truck)×Unit)×Unit)) kn=>BD v_0.1.2.2.2.1 v_0.2.1.1 v_0.2.2.1.1 v_0.2.2.1.2.1 v_0.2.2.1.2.2.1 v_0.2.2.1.2.2.2.1 (fun y0 y1 y2 y3 y4 y5=>kn (((),(),(),y0,()),((y1,()),(y2,y3,y4,y5,()),())))) (((),(),(),r3.2,()),((r3.1.word,()),(r.2,0,r2.2,[],()),()))
def o7:aK→Int→Option (aK×Convoy):=iR (fun s most_=>tQ cS s most_)
theorem tY(s:aK)(most_:Int):o7 s most_=tQ cS s most_:=by unfold o7;rw[cd]
def SP:dC av:=⟨⟨32,[],[JP,xN,L1,Rj],[],[],[],[],[],[],[],[],[26],[0],true⟩,[(3,⟨⟨[(0, .bx 0 0),(4, .bx 4 0),(5, .bx 5 0),(6, .v (.int .i64))],[(0,[.v (.int .u64)]),(5,[.v (.int .i64), .v (.int .i64), .v (.int .i64), .os 27 50 .Truck])]⟩,[],[4],[]⟩)]⟩
theorem SX(it:It (aK×Convoy))(s:aK)(most_:Int):lL (bt:= .aK) (ts:=[.Convoy]) it SP (bb Tryd.f25) Tryd.f25.results.toList (bO .aK s) (b6 [.int .i64] (most_,()))=tQ it s most_:=by kernel_rfl
def QW:eU av.toSeat:=jX av.toSeat 25 .aK [.int .i64] [.Convoy] (fun b a=>o7 b a.1) (fun b a y x hx h=>eK (Z:=av) (bt:= .aK) (ats:=[.int .i64]) (ts:=[.Convoy]) (E:=SP) (fn:=Tryd.f25) (c:=bb Tryd.f25) Tryd.func25 (by kernel_rfl) (by kernel_rfl) (by kernel_rfl) (by kernel_rfl) rfl ((SX cS b a.1).trans ((tY b a.1).symm.trans hx)) h)
def Dx(nums:List Int)(i:Int)(x6_word:Int)(kn_:Int→Int→Option aK):Option aK:=
 bif (decide (i<(nums.length:Int)))then
 aW (decide (0≤i)&&decide (i<(nums.length:Int)))<|
 (next (⟨(IntKind.u64.wrap ((IntKind.u64.wrap ((IntKind.u64.wrap (x6_word*6364136223846793005))+(IntKind.u64.wrap ((nums.getD i.toNat 0)))))+1442695040888963407))⟩:aK)).bind fun r=>
 kn_ (bz (i+1)) r.1.word
 else
 some (⟨x6_word⟩:aK)
def vD(it:It aK)(nums:List Int):Option aK:=
 it _ (fun(v_0:(Unit×Int×Unit)×((Int×Unit)×Unit)) kn=>Dx nums v_0.1.2.1 v_0.2.1.1 (fun y0 y1=>kn (((),y0,()),((y1,()),())))) (((),0,()),((1,()),()))
def pE:(List Int)→Option aK:=iR (fun nums=>vD cS nums)
theorem wN(nums:List Int):pE nums=vD cS nums:=by unfold pE;rw[cd]
def Sf:dC av:=⟨⟨31,[],[PU],[],[],[],[],[],[],[],[],[],[],true⟩,[(3,⟨⟨[(3, .bx 6 0),(4, .v (.int .i64))],[(6,[.v (.int .u64)])]⟩,[0],[],[]⟩)]⟩
theorem Tl(it:It aK)(nums:List Int):HM (bt:= .aK) it Sf (bb Tryd.f24) Tryd.f24.results.toList (b6 [.sl (.int .i64)] (nums,()))=vD it nums:=by kernel_rfl
def QH:ni av.toSeat:=Lu av.toSeat 24 .aK [.sl (.int .i64)] (fun a=>pE a.1) (fun a y hx h=>AH (Z:=av) (bt:= .aK) (ats:=[.sl (.int .i64)]) (E:=Sf) (fn:=Tryd.f24) (c:=bb Tryd.f24) Tryd.func24 (by kernel_rfl) (by kernel_rfl) (by kernel_rfl) (by kernel_rfl) rfl ⟨_,rfl⟩ ((Tl cS a.1).trans ((wN a.1).symm.trans hx)) h)
def xC(kn_:Int→Int→Int→Int→Int→(List Truck)→Option (aK×Convoy))(i:Int)(n:Int)(s_word2:Int)(c_Length2:Int)(c_Gap2:Int)(c_Fails2:Int)(c_Trucks2:List Truck)(t_Way:Int)(t_Start:Int)(t_Pace_Lo:Int)(t_Pace_Hi:Int)(t_Holds:List Hold)(kn_2:Int→Int→Int→Int→Int→(List Truck)→Int→Int→Int→Int→(List Hold)→Option (aK×Convoy)):Option (aK×Convoy):=
 bif (decide (n<12))then
 (Below (⟨s_word2⟩:aK) (bz (40*(bz (n+1))))).bind fun r6=>
 aW (gU (([]:List Truck).length+c_Trucks2.length) 56)<|
 aW (gU ((([]:List Truck)++c_Trucks2).length+([(⟨t_Way,r6.2,⟨t_Pace_Lo,t_Pace_Hi⟩,t_Holds⟩:Truck)]:List Truck).length) 56)<|
 (qO (⟨c_Length2,c_Gap2,c_Fails2,((([]:List Truck)++c_Trucks2)++([(⟨t_Way,r6.2,⟨t_Pace_Lo,t_Pace_Hi⟩,t_Holds⟩:Truck)]:List Truck))⟩:Convoy)).bind fun r7=>
 bif (r7.2==7)then
 kn_ (bz (i-1)) r6.1.word c_Length2 c_Gap2 c_Fails2 ((([]:List Truck)++c_Trucks2)++([(⟨t_Way,r6.2,⟨t_Pace_Lo,t_Pace_Hi⟩,t_Holds⟩:Truck)]:List Truck))
 else
 kn_2 (bz (n+1)) r6.1.word c_Length2 c_Gap2 c_Fails2 c_Trucks2 t_Way r6.2 t_Pace_Lo t_Pace_Hi t_Holds
 else
 kn_ (bz (i-1)) s_word2 c_Length2 c_Gap2 c_Fails2 c_Trucks2
def tr(kn_:Int→Int→Int→Int→Int→(List Truck)→Option (aK×Convoy))(i:Int)(n2:Int)(s_word3:Int)(c_Length3:Int)(c_Gap3:Int)(c_Fails3:Int)(c_Trucks3:List Truck)(t_Way2:Int)(t_Start2:Int)(t_Pace_Lo2:Int)(t_Pace_Hi2:Int)(t_Holds2:List Hold)(kn_3:Int→Int→Int→Int→Int→(List Truck)→Int→Int→Int→Int→(List Hold)→Option (aK×Convoy)):Option (aK×Convoy):=
 bif (decide (n2<12))then
 (Below (⟨s_word3⟩:aK) (bz (40*(bz (n2+1))))).bind fun r8=>
 aW (gU (([]:List Truck).length+c_Trucks3.length) 56)<|
 aW (gU ((([]:List Truck)++c_Trucks3).length+([(⟨t_Way2,r8.2,⟨t_Pace_Lo2,t_Pace_Hi2⟩,t_Holds2⟩:Truck)]:List Truck).length) 56)<|
 (qO (⟨c_Length3,c_Gap3,c_Fails3,((([]:List Truck)++c_Trucks3)++([(⟨t_Way2,r8.2,⟨t_Pace_Lo2,t_Pace_Hi2⟩,t_Holds2⟩:Truck)]:List Truck))⟩:Convoy)).bind fun r9=>
 bif (r9.2==7)then
 kn_ (bz (i-1)) r8.1.word c_Length3 c_Gap3 c_Fails3 ((([]:List Truck)++c_Trucks3)++([(⟨t_Way2,r8.2,⟨t_Pace_Lo2,t_Pace_Hi2⟩,t_Holds2⟩:Truck)]:List Truck))
 else
 kn_3 (bz (n2+1)) r8.1.word c_Length3 c_Gap3 c_Fails3 c_Trucks3 t_Way2 r8.2 t_Pace_Lo2 t_Pace_Hi2 t_Holds2
 else
 kn_ (bz (i-1)) s_word3 c_Length3 c_Gap3 c_Fails3 c_Trucks3
def xz(it:It (aK×Convoy))(i:Int)(s_word:Int)(c_Length:Int)(c_Gap:Int)(c_Fails:Int)(c_Trucks:List Truck)(kn_:Int→Int→Int→Int→Int→(List Truck)→Option (aK×Convoy)):Option (aK×Convoy):=
 bif (decide (i>0))then
 (j3 (⟨s_word⟩:aK) c_Length 2).bind fun r4=>
 (P5 r4.1 2).bind fun r5=>
 bif r5.2 then
 it _ (fun(v_0:(Unit×Unit×Unit×Unit×Int×Unit)×((Int×Unit)×(Int×Int×Int×(List Truck)×Unit)×(Int×Int×Int×Int×(List Hold)×Unit)×Unit)) kn=>xC kn_ i v_0.1.2.2.2.2.1 v_0.2.1.1 v_0.2.2.1.1 v_0.2.2.1.2.1 v_0.2.2.1.2.2.1 v_0.2.2.1.2.2.2.1 v_0.2.2.2.1.1 v_0.2.2.2.1.2.1 v_0.2.2.2.1.2.2.1 v_0.2.2.2.1.2.2.2.1 v_0.2.2.2.1.2.2.2.2.1 (fun y0 y1 y2 y3 y4 y5 y6 y7 y8 y9 y10=>kn (((),(),(),(),y0,()),((y1,()),(y2,y3,y4,y5,()),(y6,y7,y8,y9,y10,()),())))) (((),(),(),(),0,()),((r5.1.word,()),(c_Length,c_Gap,c_Fails,c_Trucks,()),(r4.2.Way,r4.2.Start,r4.2.Pace.Lo,r4.2.Pace.Hi,[],()),()))
 else
 it _ (fun(v_0:(Unit×Unit×Unit×Unit×Int×Unit)×((Int×Unit)×(Int×Int×Int×(List Truck)×Unit)×(Int×Int×Int×Int×(List Hold)×Unit)×Unit)) kn=>tr kn_ i v_0.1.2.2.2.2.1 v_0.2.1.1 v_0.2.2.1.1 v_0.2.2.1.2.1 v_0.2.2.1.2.2.1 v_0.2.2.1.2.2.2.1 v_0.2.2.2.1.1 v_0.2.2.2.1.2.1 v_0.2.2.2.1.2.2.1 v_0.2.2.2.1.2.2.2.1 v_0.2.2.2.1.2.2.2.2.1 (fun y0 y1 y2 y3 y4 y5 y6 y7 y8 y9 y10=>kn (((),(),(),(),y0,()),((y1,()),(y2,y3,y4,y5,()),(y6,y7,y8,y9,y10,()),())))) (((),(),(),(),0,()),((r5.1.word,()),(c_Length,c_Gap,c_Fails,c_Trucks,()),(r4.2.Way,r4.2.Start,r4.2.Pace.Lo,r4.2.Pace.Hi,r4.2.Holds,()),()))
 else
 some ((⟨s_word⟩:aK),(⟨c_Length,c_Gap,c_Fails,c_Trucks⟩:Convoy))
def nW(it:It (aK×Convoy))(s:aK)(most_:Int):Option (aK×Convoy):=
 (wj s 60 300).bind fun r=>
 (Below r.1 3).bind fun r2=>
 (Below r2.1 (bz (most_+1))).bind fun r3=>
 it _ (fun(v_0:(Unit×Unit×Unit×Int×Unit)×((Int×Unit)×(Int×Int×Int×(List Truck)×Unit)×Unit)) kn=>xz it v_0.1.2.2.2.1 v_0.2.1.1 v_0.2.2.1.1 v_0.2.2.1.2.1 v_0.2.2.1.2.2.1 v_0.2.2.1.2.2.2.1 (fun y0 y1 y2 y3 y4 y5=>kn (((),(),(),y0,()),((y1,()),(y2,y3,y4,y5,()),())))) (((),(),(),r3.2,()),((r3.1.word,()),(r.2,70,r2.2,[],()),()))
def kt:aK→Int→Option (aK×Convoy):=iR (fun s most_=>nW cS s most_)
theorem qf(s:aK)(most_:Int):kt s most_=nW cS s most_:=by unfold kt;rw[cd]
def SC:dC av:=⟨⟨60,[SB],[JP,xN,L1,RZ],[],[],[],[],[],[],[],[],[48],[0],true⟩,[(3,⟨⟨[(0, .bx 0 0),(4, .bx 4 0),(5, .bx 5 0),(6, .v (.int .i64))],[(0,[.v (.int .u64)]),(5,[.v (.int .i64), .v (.int .i64), .v (.int .i64), .v (.sl .Truck)])]⟩,[],[4],[]⟩),(9,⟨⟨[(0, .bx 0 0),(4, .bx 4 0),(5, .bx 5 0),(7, .bx 7 0),(8, .v (.int .i64))],[(0,[.v (.int .u64)]),(5,[.v (.int .i64), .v (.int .i64), .v (.int .i64), .v (.sl .Truck)]),(7,[.v (.int .i64), .v (.int .i64), .v (.int .i64), .v (.int .i64), .v (.sl .Hold)])]⟩,[6],[],[]⟩)]⟩
theorem SZ(it:It (aK×Convoy))(s:aK)(most_:Int):lL (bt:= .aK) (ts:=[.Convoy]) it SC (bb Tryd.f26) Tryd.f26.results.toList (bO .aK s) (b6 [.int .i64] (most_,()))=nW it s most_:=by kernel_rfl
def Q4:eU av.toSeat:=jX av.toSeat 26 .aK [.int .i64] [.Convoy] (fun b a=>kt b a.1) (fun b a y x hx h=>eK (Z:=av) (bt:= .aK) (ats:=[.int .i64]) (ts:=[.Convoy]) (E:=SC) (fn:=Tryd.f26) (c:=bb Tryd.f26) Tryd.func26 (by kernel_rfl) (by kernel_rfl) (by kernel_rfl) (by kernel_rfl) rfl ((SZ cS b a.1).trans ((qf b a.1).symm.trans hx)) h)
def xl(c:Convoy)(r4:(aK×Convoy))(r5:(aK×Convoy))(i:Int)(kn_:Int→Option Bool):Option Bool:=
 bif (decide (i<(([c,r4.2,r5.2]:List Convoy).length:Int)))then
 aW (decide (0≤i)&&decide (i<(([c,r4.2,r5.2]:List Convoy).length:Int)))<|
 aW (decide (i.toNat<([c,r4.2,r5.2]:List Convoy).length))<|
 (mn (([c,r4.2,r5.2]:List Convoy).getD i.toNat gQ)).bind fun r6=>
 (tk r6).bind fun r7=>
 aW (decide (0≤i)&&decide (i<(([c,r4.2,r5.2]:List Convoy).length:Int)))<|
 aW (decide (i.toNat<([c,r4.2,r5.2]:List Convoy).length))<|
 (qO (([c,r4.2,r5.2]:List Convoy).getD i.toNat gQ)).bind fun r8=>
 bif (!(decide (r7.1.Minute=r8.1.Minute)&&(decide (r7.1.First=r8.1.First)&&(decide (r7.1.Second=r8.1.Second)&&(r7.1.FirstFails==r8.1.FirstFails&&(r7.1.SecondFails==r8.1.SecondFails&&(decide (r7.1.At=r8.1.At)&&(decide (r7.1.Other=r8.1.Other)&&true))))))))then
 some false
 else
 bif (r7.2 !=r8.2)then
 some false
 else
 aW (decide (0≤i)&&decide (i<(([c,r4.2,r5.2]:List Convoy).length:Int)))<|
 aW (decide (i.toNat<([c,r4.2,r5.2]:List Convoy).length))<|
 (jJ r6 (([c,r4.2,r5.2]:List Convoy).getD i.toNat gQ)).bind fun r9=>
 bif (!r9)then
 some false
 else
 kn_ (bz (i+1))
 else
 (sP).bind fun r10=>
 some r10
def mW(it:It Bool)(c:Convoy)(nums:List Int):Option Bool:=
 (PL c).bind fun r=>
 bif r then
 (sP).bind fun r2=>
 some r2
 else
 (pE nums).bind fun r3=>
 (o7 r3 4).bind fun r4=>
 (kt r4.1 3).bind fun r5=>
 it _ (fun(v_0:(Unit×Int×Unit)×(Unit)) kn=>xl c r4 r5 v_0.1.2.1 (fun y0=>kn (((),y0,()),(())))) (((),0,()),(()))
def kZ:Convoy→(List Int)→Option Bool:=iR (fun c nums=>mW cS c nums)
theorem nN(c:Convoy)(nums:List Int):kZ c nums=mW cS c nums:=by unfold kZ;rw[cd]
def E4:dC av:=⟨⟨66,[Th,SQ,TC,R9,SB,Tg],[QW,Q4],[QH],[],[],[],[],[],[],[],[],[],true⟩,[(6,⟨⟨[(6, .osr 23),(7, .v (.int .i64))],[]⟩,[],[23],[]⟩)]⟩
theorem e4(it:It Bool)(c:Convoy)(nums:List Int):fW (ts:=[.bool]) it E4 (bb Tryd.f4) Tryd.f4.results.toList (b6 [.Convoy, .sl (.int .i64)] (c,nums,()))=mW it c nums:=by kernel_rfl
end
end Go.Proofs.Plain04
namespace Go.Proofs.Plain04
open Go Go.Ab
open Go.Proofs.YtafnhieaeejlcaaDoor (av cJ ai cg xS lY iX N5 OR RR Sz Rw Sy SJ fg DT)
set_option linter.all false
set_option maxRecDepth 100000
noncomputable section
def vM:Convoy→Option Int:=iR fun c=>some (ai (oC c))
theorem zu(c:Convoy):vM c=some (ai (oC c)):=by unfold vM;rw[cd]
def GI:Convoy→Option (Span×Int):=iR fun c=>some (nS (if ai (oC c)=0 then lY (oC c)else default),ai (oC c))
theorem Gr(c:Convoy):GI c=some (nS (if ai (oC c)=0 then lY (oC c)else default),ai (oC c)):=by unfold GI;rw[cd]
def vq:Convoy→Option Span:=iR fun c=>aW (ai (oC c)==0) (some (nS (lY (oC c))))
theorem Gj(c:Convoy):vq c=aW (ai (oC c)==0) (some (nS (lY (oC c)))):=by unfold vq;rw[cd]
def TB:cK av.toSeat:=dK av.toSeat 21 [.Convoy] [.int .i64] true (fun a=>vM a.1) (fun a x hx h h' =>by
 replace hx:vM a.1=some x:=hx;rw[zu]at hx
 simp only[Option.some.injEq]at hx;subst hx
 show au av.toSeat 21 [(gy .Convoy a.1).bV h] (.int .i64 (ai (oC a.1)))
 rw[wI];exact N5 _) (fun _ x=>rfl)
def TD:cK av.toSeat:=dK av.toSeat 36 [.Convoy] [.Span, .int .i64] true (fun a=>GI a.1) (fun a x hx h h' =>by
 replace hx:GI a.1=some x:=hx;rw[Gr]at hx
 simp only[Option.some.injEq]at hx;subst hx
 show au av.toSeat 36 [(gy .Convoy a.1).bV h] (.tup [.agg (Go.Proofs.YtafnhieaeejlcaaDoor.bC (if ai (oC a.1)=0 then lY (oC a.1)else default)), .int .i64 (ai (oC a.1))])
 rw[wI];exact RR _) (fun _ x=>rfl)
def TJ:cK av.toSeat:=dK av.toSeat 81 [.Convoy] [.Span] true (fun a=>vq a.1) (fun a x hx h h' =>by
 replace hx:vq a.1=some x:=hx;rw[Gj]at hx
 obtain⟨hc,hx⟩:=ak hx
 simp only[Option.some.injEq]at hx;subst hx
 show au av.toSeat 81 [(gy .Convoy a.1).bV h] (.agg (Go.Proofs.YtafnhieaeejlcaaDoor.bC (lY (oC a.1))))
 rw[wI];exact Rw _ (fg (by simpa using hc))) (fun _ x=>rfl)
end
end Go.Proofs.Plain04
