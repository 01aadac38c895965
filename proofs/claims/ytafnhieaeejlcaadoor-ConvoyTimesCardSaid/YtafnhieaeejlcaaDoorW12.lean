/- Walks by computing: what each function of the program that the laws reach gives for what it gets, as plain Lean, and that it is so; without a condition but those that stand in each theorem. -/
import Derived.Test.YtafnhieaeejlcaaDoorW1
import Derived.Test.YtafnhieaeejlcaaDoorW2
import Derived.Test.YtafnhieaeejlcaaDoorW3
import Derived.Test.YtafnhieaeejlcaaDoorW4
import Derived.Test.YtafnhieaeejlcaaDoorW5
import Derived.Test.YtafnhieaeejlcaaDoorW6
import Derived.Test.YtafnhieaeejlcaaDoorW7
import Derived.Test.YtafnhieaeejlcaaDoorW8
import Derived.Test.YtafnhieaeejlcaaDoorW9
import Derived.Test.YtafnhieaeejlcaaDoorW10
import Derived.Test.YtafnhieaeejlcaaDoorW11
set_option linter.all false
namespace Go.Proofs.Plain04
open Go Go.Ab
open Go.Proofs.YtafnhieaeejlcaaDoor (ao cK al ck A1 lB RU OL QA RV QG SM)
set_option linter.all false
set_option maxRecDepth 100000
noncomputable section
def oH(h:Hold):Go.Proofs.YtafnhieaeejlcaaDoor.Hold:=⟨h.At,h.Until⟩
def oT(t:Truck):Go.Proofs.YtafnhieaeejlcaaDoor.Truck:=⟨t.Way,t.Start,t.Pace.Lo,t.Pace.Hi,t.Holds.map oH⟩
def oC(c:Convoy):Go.Proofs.YtafnhieaeejlcaaDoor.Convoy:=⟨c.Length,c.Gap,c.Fails,c.Trucks.map oT⟩
def nM(m:Go.Proofs.YtafnhieaeejlcaaDoor.bd):bd:=⟨m.m,m.i,m.k,m.fi,m.fk,m.p,m.q⟩
theorem getD_map{α β:Type}(f:α→β)(l:List α)(i:Nat)(d:α):(l.map f).getD i (f d)=f (l.getD i d):=by
 simp only[List.getD_eq_getElem?_getD,List.getElem?_map]
 cases l[i]? <;>rfl
theorem Dx(t:Truck):Go.Proofs.YtafnhieaeejlcaaDoor.bp (oT t)=jY t:=by
 unfold Go.Proofs.YtafnhieaeejlcaaDoor.bp jY lz oT
 simp only[List.length_map]
 have:(fun i=>Go.Proofs.YtafnhieaeejlcaaDoor.fB ((t.Holds.map oH).getD i default))=fun i=>jv (t.Holds.getD i dB):=by
  funext i
  rw[show(default:Go.Proofs.YtafnhieaeejlcaaDoor.Hold)=oH dB from rfl,getD_map]
  rfl
 rw[this]
theorem Bo(c:Convoy):Go.Proofs.YtafnhieaeejlcaaDoor.aI (oC c)=mX c:=by
 unfold Go.Proofs.YtafnhieaeejlcaaDoor.aI mX lz oC
 simp only[List.length_map]
 have:(fun i=>Go.Proofs.YtafnhieaeejlcaaDoor.bp ((c.Trucks.map oT).getD i default))=fun i=>jY (c.Trucks.getD i aK):=by
  funext i
  rw[show(default:Go.Proofs.YtafnhieaeejlcaaDoor.Truck)=oT aK from rfl,getD_map,Dx]
 rw[this]
theorem sR(c:Convoy)(h:Nat→Nat):(fW .Convoy c).b8 h= .agg (Go.Proofs.YtafnhieaeejlcaaDoor.aI (oC c)):=by
 rw[Bo]
 show D.agg (I.av h (b9 .Convoy c))=_
 rw[bc];rfl
def nv(c:Convoy):bd×Int:=(nM (if al (oC c)=0 then A1 (ck (oC c))else default),if al (oC c)=0 then(if(ck (oC c)).isSome then 0 else 7)else al (oC c))
theorem Qi(c:Convoy)(h:Nat→Nat):(kO [.bd, .int .i64] (nv c)).b8 h= .tup [.agg (Go.Proofs.YtafnhieaeejlcaaDoor.cI (if al (oC c)=0 then A1 (ck (oC c))else default)), .int .i64 (if al (oC c)=0 then(if(ck (oC c)).isSome then 0 else 7)else al (oC c))]:=rfl
def gx(c:Convoy):Bool:=decide (c.Trucks.length≤25)&&c.Trucks.all fun t=>decide (t.Holds.length≤12)
theorem yJ{c:Convoy}{n:Nat}(h:(c.Trucks.all fun t=>decide (t.Holds.length≤n))=true):∀k,k<(oC c).trucks.length→((oC c).trucks.getD k default).holds.length≤n:=fun k hk=>by
 simp only[oC,List.length_map]at hk⊢
 rw[show(default:Go.Proofs.YtafnhieaeejlcaaDoor.Truck)=oT aK from rfl,getD_map]
 have hm:c.Trucks.getD k aK∈c.Trucks:=by
  rw[List.getD_eq_getElem?_getD,List.getElem?_eq_getElem hk]
  exact List.getElem_mem hk
 have:=List.all_eq_true.1 h _ hm
 simpa[oT]using this
def OO:Convoy→Option Bool:=ij fun c=>some (lB (oC c))
theorem DA(c:Convoy):OO c=some (lB (oC c)):=by unfold OO;rw[bT]
def ma:Option Bool:=ij (some true)
theorem nz:ma=some true:=by unfold ma;rw[bT]
def l5:Convoy→Option Convoy:=ij fun c=>aP (gx c) (some c)
theorem rD(c:Convoy):l5 c=aP (gx c) (some c):=by unfold l5;rw[bT]
def sr(c:Convoy):Bool:=decide (c.Trucks.length≤1000)&&c.Trucks.all fun t=>decide (t.Holds.length≤1000)
def ft:Convoy→Convoy→Option Bool:=ij fun a b=>aP (sr a) (some (decide (oC a=oC b)))
theorem kG(a b:Convoy):ft a b=aP (sr a) (some (decide (oC a=oC b))):=by unfold ft;rw[bT]
def wW:Convoy→Option (bd×Int):=ij fun c=>some (nv c)
theorem zJ(c:Convoy):wW c=some (nv c):=by unfold wW;rw[bT]
def ov:Convoy→Option (bd×Int):=ij fun c=>some (nv c)
theorem oZ(c:Convoy):ov c=some (nv c):=by unfold ov;rw[bT]
def SG:cv ao.toSeat:=df ao.toSeat 18 [.Convoy] [.bool] true (fun a=>OO a.1) (fun a x hx h h' =>by
 replace hx:OO a.1=some x:=hx;rw[DA]at hx
 simp only[Option.some.injEq]at hx;subst hx
 show au ao.toSeat 18 [(fW .Convoy a.1).b8 h] (.bool (lB (oC a.1)))
 rw[sR];exact RU _) (fun _ x=>rfl)
def Su:cv ao.toSeat:=df ao.toSeat 19 [] [.bool] true (fun _=>ma) (fun a x hx h h' =>by
 replace hx:ma=some x:=hx;rw[nz]at hx
 simp only[Option.some.injEq]at hx;subst hx
 exact OL) (fun _ x=>rfl)
def Tm:cv ao.toSeat:=df ao.toSeat 20 [.Convoy] [.Convoy] false (fun a=>l5 a.1) (fun a x hx h h' =>by
 replace hx:l5 a.1=some x:=hx;rw[rD]at hx
 obtain⟨hc,hx⟩:=ai hx
 simp only[Option.some.injEq]at hx;subst hx
 simp only[gx,Bool.and_eq_true,decide_eq_true_eq]at hc
 show au ao.toSeat 20 [(fW .Convoy a.1).b8 h] ((fW .Convoy a.1).b8 h')
 rw[sR,sR]
 exact QA _ (by simp only[oC,List.length_map];exact hc.1) (yJ hc.2)) (fun h=>nomatch h)
def Sa:cv ao.toSeat:=df ao.toSeat 23 [.Convoy, .Convoy] [.bool] true (fun a=>ft a.1 a.2.1) (fun a x hx h h' =>by
 replace hx:ft a.1 a.2.1=some x:=hx;rw[kG]at hx
 obtain⟨hc,hx⟩:=ai hx
 simp only[Option.some.injEq]at hx;subst hx
 simp only[sr,Bool.and_eq_true,decide_eq_true_eq]at hc
 show au ao.toSeat 23 [(fW .Convoy a.1).b8 h,(fW .Convoy a.2.1).b8 h] (.bool (decide (oC a.1=oC a.2.1)))
 rw[sR,sR]
 exact RV _ _ (by simp only[oC,List.length_map];exact hc.1) (yJ hc.2)) (fun _ x=>rfl)
def Tw:cv ao.toSeat:=df ao.toSeat 27 [.Convoy] [.bd, .int .i64] true (fun a=>wW a.1) (fun a x hx h h' =>by
 replace hx:wW a.1=some x:=hx;rw[zJ]at hx
 simp only[Option.some.injEq]at hx;subst hx
 show au ao.toSeat 27 [(fW .Convoy a.1).b8 h] _
 rw[sR,Qi];exact QG _) (fun _ x=>rfl)
def QU:cv ao.toSeat:=df ao.toSeat 28 [.Convoy] [.bd, .int .i64] true (fun a=>ov a.1) (fun a x hx h h' =>by
 replace hx:ov a.1=some x:=hx;rw[oZ]at hx
 simp only[Option.some.injEq]at hx;subst hx
 show au ao.toSeat 28 [(fW .Convoy a.1).b8 h] _
 rw[sR,Qi];exact SM _) (fun _ x=>rfl)
end
end Go.Proofs.Plain04
namespace Go.Proofs.Plain04
open Go Go.Ab
open Go.Proofs.YtafnhieaeejlcaaDoor (ao)
set_option linter.all false
set_option maxRecDepth 100000
noncomputable section
def next'(it:It (aQ×Int))(s:aQ):Option (aQ×Int):=
 some ((⟨(IntKind.u64.wrap (s.word+11400714819323198485))⟩:aQ),(D8 .u64 (IntKind.u64.wrap ((D8 .u64 (IntKind.u64.wrap ((D8 .u64 (IntKind.u64.wrap (s.word+11400714819323198485)) (xW .u64 (IntKind.u64.wrap (s.word+11400714819323198485)) 30))*13787848793156543929)) (xW .u64 (IntKind.u64.wrap ((D8 .u64 (IntKind.u64.wrap (s.word+11400714819323198485)) (xW .u64 (IntKind.u64.wrap (s.word+11400714819323198485)) 30))*13787848793156543929)) 27))*10723151780598845931)) (xW .u64 (IntKind.u64.wrap ((D8 .u64 (IntKind.u64.wrap ((D8 .u64 (IntKind.u64.wrap (s.word+11400714819323198485)) (xW .u64 (IntKind.u64.wrap (s.word+11400714819323198485)) 30))*13787848793156543929)) (xW .u64 (IntKind.u64.wrap ((D8 .u64 (IntKind.u64.wrap (s.word+11400714819323198485)) (xW .u64 (IntKind.u64.wrap (s.word+11400714819323198485)) 30))*13787848793156543929)) 27))*10723151780598845931)) 31)))
def next:aQ→Option (aQ×Int):=ij (fun s=>next' cH s)
theorem Fj(s:aQ):next s=next' cH s:=by unfold next;rw[bT]
def SI:du ao:=⟨⟨30,[],[],[],[],[],[],[],[],[],[],[],[0],true⟩,[]⟩
theorem S8(it:It (aQ×Int))(s:aQ):lr (bt:= .aQ) (ts:=[.int .u64]) it SI (aU Tryd.f68) Tryd.f68.results.toList (b9 .aQ s) (bY [] (()))=next' it s:=by kernel_rfl
def PD:eX ao.toSeat:=jP ao.toSeat 68 .aQ [] [.int .u64] (fun b a=>next b) (fun b a y x hx h=>eH (Z:=ao) (bt:= .aQ) (ats:=[]) (ts:=[.int .u64]) (E:=SI) (fn:=Tryd.f68) (c:=aU Tryd.f68) Tryd.func68 (by kernel_rfl) (by kernel_rfl) (by kernel_rfl) (by kernel_rfl) rfl ((S8 cH b).trans ((Fj b).symm.trans hx)) h)
def Eh(it:It (aQ×Int))(s:aQ)(n:Int):Option (aQ×Int):=
 bif (decide (n<2))then
 some (s,0)
 else
 (next s).bind fun r=>
 aP ((IntKind.u64.wrap (n)) !=0)<|
 some (r.1,(bG (((xW .u64 r.2 1).tmod (IntKind.u64.wrap (n))))))
def Below:aQ→Int→Option (aQ×Int):=ij (fun s n=>Eh cH s n)
theorem CZ(s:aQ)(n:Int):Below s n=Eh cH s n:=by unfold Below;rw[bT]
def SP:du ao:=⟨⟨14,[],[PD],[],[],[],[],[],[],[],[],[],[0],true⟩,[]⟩
theorem Tc(it:It (aQ×Int))(s:aQ)(n:Int):lr (bt:= .aQ) (ts:=[.int .i64]) it SP (aU Tryd.f32) Tryd.f32.results.toList (b9 .aQ s) (bY [.int .i64] (n,()))=Eh it s n:=by kernel_rfl
def Ca:eX ao.toSeat:=jP ao.toSeat 32 .aQ [.int .i64] [.int .i64] (fun b a=>Below b a.1) (fun b a y x hx h=>eH (Z:=ao) (bt:= .aQ) (ats:=[.int .i64]) (ts:=[.int .i64]) (E:=SP) (fn:=Tryd.f32) (c:=aU Tryd.f32) Tryd.func32 (by kernel_rfl) (by kernel_rfl) (by kernel_rfl) (by kernel_rfl) rfl ((Tc cH b a.1).trans ((CZ b a.1).symm.trans hx)) h)
def NB(it:It (aQ×Bool))(s:aQ)(n:Int):Option (aQ×Bool):=
 (Below s n).bind fun r=>
 some (r.1,(r.2==0))
def Pc:aQ→Int→Option (aQ×Bool):=ij (fun s n=>NB cH s n)
theorem ID(s:aQ)(n:Int):Pc s n=NB cH s n:=by unfold Pc;rw[bT]
def Sp:du ao:=⟨⟨9,[],[Ca],[],[],[],[],[],[],[],[],[],[0],true⟩,[]⟩
theorem Tv(it:It (aQ×Bool))(s:aQ)(n:Int):lr (bt:= .aQ) (ts:=[.bool]) it Sp (aU Tryd.f33) Tryd.f33.results.toList (b9 .aQ s) (bY [.int .i64] (n,()))=NB it s n:=by kernel_rfl
def Rs:eX ao.toSeat:=jP ao.toSeat 33 .aQ [.int .i64] [.bool] (fun b a=>Pc b a.1) (fun b a y x hx h=>eH (Z:=ao) (bt:= .aQ) (ats:=[.int .i64]) (ts:=[.bool]) (E:=Sp) (fn:=Tryd.f33) (c:=aU Tryd.f33) Tryd.func33 (by kernel_rfl) (by kernel_rfl) (by kernel_rfl) (by kernel_rfl) rfl ((Tv cH b a.1).trans ((ID b a.1).symm.trans hx)) h)
def Iq(it:It (aQ×Int))(s:aQ)(low:Int)(high:Int):Option (aQ×Int):=
 (Below s (bG ((bG (high-low))+1))).bind fun r=>
 some (r.1,(bG (low+r.2)))
def sK:aQ→Int→Int→Option (aQ×Int):=ij (fun s low high=>Iq cH s low high)
theorem Fy(s:aQ)(low:Int)(high:Int):sK s low high=Iq cH s low high:=by unfold sK;rw[bT]
def SB:du ao:=⟨⟨15,[],[Ca],[],[],[],[],[],[],[],[],[],[0],true⟩,[]⟩
theorem TF(it:It (aQ×Int))(s:aQ)(low:Int)(high:Int):lr (bt:= .aQ) (ts:=[.int .i64]) it SB (aU Tryd.f35) Tryd.f35.results.toList (b9 .aQ s) (bY [.int .i64, .int .i64] (low,high,()))=Iq it s low high:=by kernel_rfl
def Ky:eX ao.toSeat:=jP ao.toSeat 35 .aQ [.int .i64, .int .i64] [.int .i64] (fun b a=>sK b a.1 a.2.1) (fun b a y x hx h=>eH (Z:=ao) (bt:= .aQ) (ats:=[.int .i64, .int .i64]) (ts:=[.int .i64]) (E:=SB) (fn:=Tryd.f35) (c:=aU Tryd.f35) Tryd.func35 (by kernel_rfl) (by kernel_rfl) (by kernel_rfl) (by kernel_rfl) rfl ((TF cH b a.1 a.2.1).trans ((Fy b a.1 a.2.1).symm.trans hx)) h)
def RK(it:It (aQ×Int))(s:aQ)(l:List Int):Option (aQ×Int):=
 bif ((l.length:Int)==0)then
 some (s,0)
 else
 (Below s (l.length:Int)).bind fun r=>
 aP (decide (0≤r.2)&&decide (r.2<(l.length:Int)))<|
 some (r.1,(l.getD r.2.toNat 0))
def Of:aQ→(List Int)→Option (aQ×Int):=ij (fun s l=>RK cH s l)
theorem LZ(s:aQ)(l:List Int):Of s l=RK cH s l:=by unfold Of;rw[bT]
def Sj:du ao:=⟨⟨15,[],[Ca],[],[],[],[],[],[],[],[],[],[0],true⟩,[]⟩
theorem SY(it:It (aQ×Int))(s:aQ)(l:List Int):lr (bt:= .aQ) (ts:=[.int .i64]) it Sj (aU Tryd.f45) Tryd.f45.results.toList (b9 .aQ s) (bY [.sl (.int .i64)] (l,()))=RK it s l:=by kernel_rfl
def Ox:eX ao.toSeat:=jP ao.toSeat 45 .aQ [.sl (.int .i64)] [.int .i64] (fun b a=>Of b a.1) (fun b a y x hx h=>eH (Z:=ao) (bt:= .aQ) (ats:=[.sl (.int .i64)]) (ts:=[.int .i64]) (E:=Sj) (fn:=Tryd.f45) (c:=aU Tryd.f45) Tryd.func45 (by kernel_rfl) (by kernel_rfl) (by kernel_rfl) (by kernel_rfl) rfl ((SY cH b a.1).trans ((LZ b a.1).symm.trans hx)) h)
def D7(length:Int)(at_:Int)(i:Int)(s_word:Int)(t_Way:Int)(t_Start:Int)(t_Pace_Lo:Int)(t_Pace_Hi:Int)(t_Holds:List Hold)(kn_:Int→Int→Int→Int→Int→Int→Int→(List Hold)→Option (aQ×Truck)):Option (aQ×Truck):=
 bif (decide (i>0))then
 bif (decide (at_<(bG (length-1))))then
 (sK (⟨s_word⟩:aQ) (bG (at_+1)) (bG (length-1))).bind fun r9=>
 (Below r9.1 150).bind fun r10=>
 bif (t_Way==2)then
 aP (fV (t_Holds.length+([(⟨(bG (length-r9.2)),r10.2⟩:Hold)]:List Hold).length) 16)<|
 kn_ r9.2 (bG (i-1)) r10.1.word t_Way t_Start t_Pace_Lo t_Pace_Hi (t_Holds++([(⟨(bG (length-r9.2)),r10.2⟩:Hold)]:List Hold))
 else
 aP (fV (t_Holds.length+([(⟨r9.2,r10.2⟩:Hold)]:List Hold).length) 16)<|
 kn_ r9.2 (bG (i-1)) r10.1.word t_Way t_Start t_Pace_Lo t_Pace_Hi (t_Holds++([(⟨r9.2,r10.2⟩:Hold)]:List Hold))
 else
 some ((⟨s_word⟩:aQ),(⟨t_Way,t_Start,⟨t_Pace_Lo,t_Pace_Hi⟩,t_Holds⟩:Truck))
 else
 some ((⟨s_word⟩:aQ),(⟨t_Way,t_Start,⟨t_Pace_Lo,t_Pace_Hi⟩,t_Holds⟩:Truck))
def wV(it:It (aQ×Truck))(s:aQ)(length:Int)(holds:Int):Option (aQ×Truck):=
 (sK s 1 2).bind fun r=>
 (Below r.1 60).bind fun r2=>
 (Below r2.1 200).bind fun r3=>
 (Of r3.1 [0,r2.2,r3.2]).bind fun r4=>
 (sK r4.1 5 25).bind fun r5=>
 (Below r5.1 8).bind fun r6=>
 (Of r6.1 [0,r6.2]).bind fun r7=>
 (Below r7.1 (bG (holds+1))).bind fun r8=>
 it _ (fun(v_0:(Unit×Unit×Unit×Int×Int×Unit)×((Int×Unit)×(Int×Int×Int×Int×(List Hold)×Unit)×Unit)) kn=>D7 length v_0.1.2.2.2.1 v_0.1.2.2.2.2.1 v_0.2.1.1 v_0.2.2.1.1 v_0.2.2.1.2.1 v_0.2.2.1.2.2.1 v_0.2.2.1.2.2.2.1 v_0.2.2.1.2.2.2.2.1 (fun y0 y1 y2 y3 y4 y5 y6 y7=>kn (((),(),(),y0,y1,()),((y2,()),(y3,y4,y5,y6,y7,()),())))) (((),(),(),0,r8.2,()),((r8.1.word,()),(r.2,r4.2,r5.2,(bG (r5.2+r7.2)),[],()),()))
def pz:aQ→Int→Int→Option (aQ×Truck):=ij (fun s length holds=>wV cH s length holds)
theorem u7(s:aQ)(length:Int)(holds:Int):pz s length holds=wV cH s length holds:=by unfold pz;rw[bT]
def SC:du ao:=⟨⟨74,[],[Ky,Ca,Ox],[],[],[],[],[],[],[],[],[18,31,70],[0],true⟩,[(6,⟨⟨[(0, .bx 0 0),(6, .bx 6 0),(7, .bx 7 0),(8, .v (.int .i64)),(9, .v (.int .i64))],[(0,[.v (.int .u64)]),(7,[.v (.int .i64), .v (.int .i64), .v (.int .i64), .v (.int .i64), .os 71 89 .Hold])]⟩,[1],[6],[]⟩)]⟩
theorem Te(it:It (aQ×Truck))(s:aQ)(length:Int)(holds:Int):lr (bt:= .aQ) (ts:=[.Truck]) it SC (aU Tryd.f46) Tryd.f46.results.toList (b9 .aQ s) (bY [.int .i64, .int .i64] (length,holds,()))=wV it s length holds:=by kernel_rfl
def P0:eX ao.toSeat:=jP ao.toSeat 46 .aQ [.int .i64, .int .i64] [.Truck] (fun b a=>pz b a.1 a.2.1) (fun b a y x hx h=>eH (Z:=ao) (bt:= .aQ) (ats:=[.int .i64, .int .i64]) (ts:=[.Truck]) (E:=SC) (fn:=Tryd.f46) (c:=aU Tryd.f46) Tryd.func46 (by kernel_rfl) (by kernel_rfl) (by kernel_rfl) (by kernel_rfl) rfl ((Te cH b a.1 a.2.1).trans ((u7 b a.1 a.2.1).symm.trans hx)) h)
def Lt(s:aQ)(i:Int)(c_Length:Int)(c_Gap:Int)(c_Fails:Int)(c_Trucks:List Truck)(kn_:Int→Int→Int→Int→(List Truck)→Option (aQ×Convoy)):Option (aQ×Convoy):=
 bif (decide (i<(c_Trucks.length:Int)))then
 aP (decide (0≤i)&&decide (i<(c_Trucks.length:Int)))<|
 kn_ (bG (i+1)) c_Length (max c_Gap (bG (2*(c_Trucks.getD i.toNat aK).Pace.Hi))) c_Fails c_Trucks
 else
 (Below s 30).bind fun r=>
 (Of r.1 [0,r.2]).bind fun r2=>
 some (r2.1,(⟨c_Length,(bG (c_Gap+r2.2)),c_Fails,c_Trucks⟩:Convoy))
def IK(it:It (aQ×Convoy))(s:aQ)(c:Convoy):Option (aQ×Convoy):=
 it _ (fun(v_0:(Unit×Unit×Unit×Int×Unit)×((Int×Int×Int×(List Truck)×Unit)×Unit)) kn=>Lt s v_0.1.2.2.2.1 v_0.2.1.1 v_0.2.1.2.1 v_0.2.1.2.2.1 v_0.2.1.2.2.2.1 (fun y0 y1 y2 y3 y4=>kn (((),(),(),y0,()),((y1,y2,y3,y4,()),())))) (((),(),(),0,()),((c.Length,1,c.Fails,c.Trucks,()),()))
def wide:aQ→Convoy→Option (aQ×Convoy):=ij (fun s c=>IK cH s c)
theorem Fp(s:aQ)(c:Convoy):wide s c=IK cH s c:=by unfold wide;rw[bT]
def Sy:du ao:=⟨⟨36,[],[Ca,Ox],[],[],[],[],[],[],[],[],[31],[0],true⟩,[(3,⟨⟨[(0, .bx 0 0),(3, .bx 3 0),(4, .bx 4 0),(5, .v (.int .i64))],[(3,[.v (.int .i64), .v (.int .i64), .v (.int .i64), .v (.sl .Truck)])]⟩,[],[0,4],[]⟩)]⟩
theorem S5(it:It (aQ×Convoy))(s:aQ)(c:Convoy):lr (bt:= .aQ) (ts:=[.Convoy]) it Sy (aU Tryd.f69) Tryd.f69.results.toList (b9 .aQ s) (bY [.Convoy] (c,()))=IK it s c:=by kernel_rfl
def QQ:eX ao.toSeat:=jP ao.toSeat 69 .aQ [.Convoy] [.Convoy] (fun b a=>wide b a.1) (fun b a y x hx h=>eH (Z:=ao) (bt:= .aQ) (ats:=[.Convoy]) (ts:=[.Convoy]) (E:=Sy) (fn:=Tryd.f69) (c:=aU Tryd.f69) Tryd.func69 (by kernel_rfl) (by kernel_rfl) (by kernel_rfl) (by kernel_rfl) rfl ((S5 cH b a.1).trans ((Fp b a.1).symm.trans hx)) h)
def Co(i:Int)(s_word:Int)(c_Length:Int)(c_Gap:Int)(c_Fails:Int)(c_Trucks:List Truck)(kn_:Int→Int→Int→Int→Int→(List Truck)→Option (aQ×Convoy)):Option (aQ×Convoy):=
 bif (decide (i>0))then
 (pz (⟨s_word⟩:aQ) c_Length 3).bind fun r4=>
 aP (fV (c_Trucks.length+([r4.2]:List Truck).length) 56)<|
 kn_ (bG (i-1)) r4.1.word c_Length c_Gap c_Fails (c_Trucks++([r4.2]:List Truck))
 else
 (wide (⟨s_word⟩:aQ) (⟨c_Length,c_Gap,c_Fails,c_Trucks⟩:Convoy)).bind fun r5=>
 some (r5.1,r5.2)
def sT(it:It (aQ×Convoy))(s:aQ)(most_:Int):Option (aQ×Convoy):=
 (sK s 20 400).bind fun r=>
 (Below r.1 3).bind fun r2=>
 (Below r2.1 (bG (most_+1))).bind fun r3=>
 it _ (fun(v_0:(Unit×Unit×Unit×Int×Unit)×((Int×Unit)×(Int×Int×Int×(List Truck)×Unit)×Unit)) kn=>Co v_0.1.2.2.2.1 v_0.2.1.1 v_0.2.2.1.1 v_0.2.2.1.2.1 v_0.2.2.1.2.2.1 v_0.2.2.1.2.2.2.1 (fun y0 y1 y2 y3 y4 y5=>kn (((),(),(),y0,()),((y1,()),(y2,y3,y4,y5,()),())))) (((),(),(),r3.2,()),((r3.1.word,()),(r.2,0,r2.2,[],()),()))
def ir:aQ→Int→Option (aQ×Convoy):=ij (fun s most_=>sT cH s most_)
theorem tX(s:aQ)(most_:Int):ir s most_=sT cH s most_:=by unfold ir;rw[bT]
def Sg:du ao:=⟨⟨32,[],[Ky,Ca,P0,QQ],[],[],[],[],[],[],[],[],[26],[0],true⟩,[(3,⟨⟨[(0, .bx 0 0),(4, .bx 4 0),(5, .bx 5 0),(6, .v (.int .i64))],[(0,[.v (.int .u64)]),(5,[.v (.int .i64), .v (.int .i64), .v (.int .i64), .os 27 50 .Truck])]⟩,[],[4],[]⟩)]⟩
theorem Td(it:It (aQ×Convoy))(s:aQ)(most_:Int):lr (bt:= .aQ) (ts:=[.Convoy]) it Sg (aU Tryd.f25) Tryd.f25.results.toList (b9 .aQ s) (bY [.int .i64] (most_,()))=sT it s most_:=by kernel_rfl
def PN:eX ao.toSeat:=jP ao.toSeat 25 .aQ [.int .i64] [.Convoy] (fun b a=>ir b a.1) (fun b a y x hx h=>eH (Z:=ao) (bt:= .aQ) (ats:=[.int .i64]) (ts:=[.Convoy]) (E:=Sg) (fn:=Tryd.f25) (c:=aU Tryd.f25) Tryd.func25 (by kernel_rfl) (by kernel_rfl) (by kernel_rfl) (by kernel_rfl) rfl ((Td cH b a.1).trans ((tX b a.1).symm.trans hx)) h)
def Dr(nums:List Int)(i:Int)(x6_word:Int)(kn_:Int→Int→Option aQ):Option aQ:=
 bif (decide (i<(nums.length:Int)))then
 aP (decide (0≤i)&&decide (i<(nums.length:Int)))<|
 (next (⟨(IntKind.u64.wrap ((IntKind.u64.wrap ((IntKind.u64.wrap (x6_word*6364136223846793005))+(IntKind.u64.wrap ((nums.getD i.toNat 0)))))+1442695040888963407))⟩:aQ)).bind fun r=>
 kn_ (bG (i+1)) r.1.word
 else
 some (⟨x6_word⟩:aQ)
def xh(it:It aQ)(nums:List Int):Option aQ:=
 it _ (fun(v_0:(Unit×Int×Unit)×((Int×Unit)×Unit)) kn=>Dr nums v_0.1.2.1 v_0.2.1.1 (fun y0 y1=>kn (((),y0,()),((y1,()),())))) (((),0,()),((1,()),()))
def jM:(List Int)→Option aQ:=ij (fun nums=>xh cH nums)
theorem wE(nums:List Int):jM nums=xh cH nums:=by unfold jM;rw[bT]
def R1:du ao:=⟨⟨31,[],[PD],[],[],[],[],[],[],[],[],[],[],true⟩,[(3,⟨⟨[(3, .bx 6 0),(4, .v (.int .i64))],[(6,[.v (.int .u64)])]⟩,[0],[],[]⟩)]⟩
theorem SV(it:It aQ)(nums:List Int):HO (bt:= .aQ) it R1 (aU Tryd.f24) Tryd.f24.results.toList (bY [.sl (.int .i64)] (nums,()))=xh it nums:=by kernel_rfl
def PK:mS ao.toSeat:=Lu ao.toSeat 24 .aQ [.sl (.int .i64)] (fun a=>jM a.1) (fun a y hx h=>A4 (Z:=ao) (bt:= .aQ) (ats:=[.sl (.int .i64)]) (E:=R1) (fn:=Tryd.f24) (c:=aU Tryd.f24) Tryd.func24 (by kernel_rfl) (by kernel_rfl) (by kernel_rfl) (by kernel_rfl) rfl ⟨_,rfl⟩ ((SV cH a.1).trans ((wE a.1).symm.trans hx)) h)
def xr(kn_:Int→Int→Int→Int→Int→(List Truck)→Option (aQ×Convoy))(i:Int)(n:Int)(s_word2:Int)(c_Length2:Int)(c_Gap2:Int)(c_Fails2:Int)(c_Trucks2:List Truck)(t_Way:Int)(t_Start:Int)(t_Pace_Lo:Int)(t_Pace_Hi:Int)(t_Holds:List Hold)(kn_2:Int→Int→Int→Int→Int→(List Truck)→Int→Int→Int→Int→(List Hold)→Option (aQ×Convoy)):Option (aQ×Convoy):=
 bif (decide (n<12))then
 (Below (⟨s_word2⟩:aQ) (bG (40*(bG (n+1))))).bind fun r6=>
 aP (fV (([]:List Truck).length+c_Trucks2.length) 56)<|
 aP (fV ((([]:List Truck)++c_Trucks2).length+([(⟨t_Way,r6.2,⟨t_Pace_Lo,t_Pace_Hi⟩,t_Holds⟩:Truck)]:List Truck).length) 56)<|
 (ov (⟨c_Length2,c_Gap2,c_Fails2,((([]:List Truck)++c_Trucks2)++([(⟨t_Way,r6.2,⟨t_Pace_Lo,t_Pace_Hi⟩,t_Holds⟩:Truck)]:List Truck))⟩:Convoy)).bind fun r7=>
 bif (r7.2==7)then
 kn_ (bG (i-1)) r6.1.word c_Length2 c_Gap2 c_Fails2 ((([]:List Truck)++c_Trucks2)++([(⟨t_Way,r6.2,⟨t_Pace_Lo,t_Pace_Hi⟩,t_Holds⟩:Truck)]:List Truck))
 else
 kn_2 (bG (n+1)) r6.1.word c_Length2 c_Gap2 c_Fails2 c_Trucks2 t_Way r6.2 t_Pace_Lo t_Pace_Hi t_Holds
 else
 kn_ (bG (i-1)) s_word2 c_Length2 c_Gap2 c_Fails2 c_Trucks2
def tA(kn_:Int→Int→Int→Int→Int→(List Truck)→Option (aQ×Convoy))(i:Int)(n2:Int)(s_word3:Int)(c_Length3:Int)(c_Gap3:Int)(c_Fails3:Int)(c_Trucks3:List Truck)(t_Way2:Int)(t_Start2:Int)(t_Pace_Lo2:Int)(t_Pace_Hi2:Int)(t_Holds2:List Hold)(kn_3:Int→Int→Int→Int→Int→(List Truck)→Int→Int→Int→Int→(List Hold)→Option (aQ×Convoy)):Option (aQ×Convoy):=
 bif (decide (n2<12))then
 (Below (⟨s_word3⟩:aQ) (bG (40*(bG (n2+1))))).bind fun r8=>
 aP (fV (([]:List Truck).length+c_Trucks3.length) 56)<|
 aP (fV ((([]:List Truck)++c_Trucks3).length+([(⟨t_Way2,r8.2,⟨t_Pace_Lo2,t_Pace_Hi2⟩,t_Holds2⟩:Truck)]:List Truck).length) 56)<|
 (ov (⟨c_Length3,c_Gap3,c_Fails3,((([]:List Truck)++c_Trucks3)++([(⟨t_Way2,r8.2,⟨t_Pace_Lo2,t_Pace_Hi2⟩,t_Holds2⟩:Truck)]:List Truck))⟩:Convoy)).bind fun r9=>
 bif (r9.2==7)then
 kn_ (bG (i-1)) r8.1.word c_Length3 c_Gap3 c_Fails3 ((([]:List Truck)++c_Trucks3)++([(⟨t_Way2,r8.2,⟨t_Pace_Lo2,t_Pace_Hi2⟩,t_Holds2⟩:Truck)]:List Truck))
 else
 kn_3 (bG (n2+1)) r8.1.word c_Length3 c_Gap3 c_Fails3 c_Trucks3 t_Way2 r8.2 t_Pace_Lo2 t_Pace_Hi2 t_Holds2
 else
 kn_ (bG (i-1)) s_word3 c_Length3 c_Gap3 c_Fails3 c_Trucks3
def xR(it:It (aQ×Convoy))(i:Int)(s_word:Int)(c_Length:Int)(c_Gap:Int)(c_Fails:Int)(c_Trucks:List Truck)(kn_:Int→Int→Int→Int→Int→(List Truck)→Option (aQ×Convoy)):Option (aQ×Convoy):=
 bif (decide (i>0))then
 (pz (⟨s_word⟩:aQ) c_Length 2).bind fun r4=>
 (Pc r4.1 2).bind fun r5=>
 bif r5.2 then
 it _ (fun(v_0:(Unit×Unit×Unit×Unit×Int×Unit)×((Int×Unit)×(Int×Int×Int×(List Truck)×Unit)×(Int×Int×Int×Int×(List Hold)×Unit)×Unit)) kn=>xr kn_ i v_0.1.2.2.2.2.1 v_0.2.1.1 v_0.2.2.1.1 v_0.2.2.1.2.1 v_0.2.2.1.2.2.1 v_0.2.2.1.2.2.2.1 v_0.2.2.2.1.1 v_0.2.2.2.1.2.1 v_0.2.2.2.1.2.2.1 v_0.2.2.2.1.2.2.2.1 v_0.2.2.2.1.2.2.2.2.1 (fun y0 y1 y2 y3 y4 y5 y6 y7 y8 y9 y10=>kn (((),(),(),(),y0,()),((y1,()),(y2,y3,y4,y5,()),(y6,y7,y8,y9,y10,()),())))) (((),(),(),(),0,()),((r5.1.word,()),(c_Length,c_Gap,c_Fails,c_Trucks,()),(r4.2.Way,r4.2.Start,r4.2.Pace.Lo,r4.2.Pace.Hi,[],()),()))
 else
 it _ (fun(v_0:(Unit×Unit×Unit×Unit×Int×Unit)×((Int×Unit)×(Int×Int×Int×(List Truck)×Unit)×(Int×Int×Int×Int×(List Hold)×Unit)×Unit)) kn=>tA kn_ i v_0.1.2.2.2.2.1 v_0.2.1.1 v_0.2.2.1.1 v_0.2.2.1.2.1 v_0.2.2.1.2.2.1 v_0.2.2.1.2.2.2.1 v_0.2.2.2.1.1 v_0.2.2.2.1.2.1 v_0.2.2.2.1.2.2.1 v_0.2.2.2.1.2.2.2.1 v_0.2.2.2.1.2.2.2.2.1 (fun y0 y1 y2 y3 y4 y5 y6 y7 y8 y9 y10=>kn (((),(),(),(),y0,()),((y1,()),(y2,y3,y4,y5,()),(y6,y7,y8,y9,y10,()),())))) (((),(),(),(),0,()),((r5.1.word,()),(c_Length,c_Gap,c_Fails,c_Trucks,()),(r4.2.Way,r4.2.Start,r4.2.Pace.Lo,r4.2.Pace.Hi,r4.2.Holds,()),()))
 else
 some ((⟨s_word⟩:aQ),(⟨c_Length,c_Gap,c_Fails,c_Trucks⟩:Convoy))
def nu(it:It (aQ×Convoy))(s:aQ)(most_:Int):Option (aQ×Convoy):=
 (sK s 60 300).bind fun r=>
 (Below r.1 3).bind fun r2=>
 (Below r2.1 (bG (most_+1))).bind fun r3=>
 it _ (fun(v_0:(Unit×Unit×Unit×Int×Unit)×((Int×Unit)×(Int×Int×Int×(List Truck)×Unit)×Unit)) kn=>xR it v_0.1.2.2.2.1 v_0.2.1.1 v_0.2.2.1.1 v_0.2.2.1.2.1 v_0.2.2.1.2.2.1 v_0.2.2.1.2.2.2.1 (fun y0 y1 y2 y3 y4 y5=>kn (((),(),(),y0,()),((y1,()),(y2,y3,y4,y5,()),())))) (((),(),(),r3.2,()),((r3.1.word,()),(r.2,70,r2.2,[],()),()))
def kd:aQ→Int→Option (aQ×Convoy):=ij (fun s most_=>nu cH s most_)
theorem pN(s:aQ)(most_:Int):kd s most_=nu cH s most_:=by unfold kd;rw[bT]
def RZ:du ao:=⟨⟨60,[QU],[Ky,Ca,P0,Rs],[],[],[],[],[],[],[],[],[48],[0],true⟩,[(3,⟨⟨[(0, .bx 0 0),(4, .bx 4 0),(5, .bx 5 0),(6, .v (.int .i64))],[(0,[.v (.int .u64)]),(5,[.v (.int .i64), .v (.int .i64), .v (.int .i64), .v (.sl .Truck)])]⟩,[],[4],[]⟩),(9,⟨⟨[(0, .bx 0 0),(4, .bx 4 0),(5, .bx 5 0),(7, .bx 7 0),(8, .v (.int .i64))],[(0,[.v (.int .u64)]),(5,[.v (.int .i64), .v (.int .i64), .v (.int .i64), .v (.sl .Truck)]),(7,[.v (.int .i64), .v (.int .i64), .v (.int .i64), .v (.int .i64), .v (.sl .Hold)])]⟩,[6],[],[]⟩)]⟩
theorem TH(it:It (aQ×Convoy))(s:aQ)(most_:Int):lr (bt:= .aQ) (ts:=[.Convoy]) it RZ (aU Tryd.f26) Tryd.f26.results.toList (b9 .aQ s) (bY [.int .i64] (most_,()))=nu it s most_:=by kernel_rfl
def Rv:eX ao.toSeat:=jP ao.toSeat 26 .aQ [.int .i64] [.Convoy] (fun b a=>kd b a.1) (fun b a y x hx h=>eH (Z:=ao) (bt:= .aQ) (ats:=[.int .i64]) (ts:=[.Convoy]) (E:=RZ) (fn:=Tryd.f26) (c:=aU Tryd.f26) Tryd.func26 (by kernel_rfl) (by kernel_rfl) (by kernel_rfl) (by kernel_rfl) rfl ((TH cH b a.1).trans ((pN b a.1).symm.trans hx)) h)
def wb(c:Convoy)(r4:(aQ×Convoy))(r5:(aQ×Convoy))(i:Int)(kn_:Int→Option Bool):Option Bool:=
 bif (decide (i<(([c,r4.2,r5.2]:List Convoy).length:Int)))then
 aP (decide (0≤i)&&decide (i<(([c,r4.2,r5.2]:List Convoy).length:Int)))<|
 aP (decide (i.toNat<([c,r4.2,r5.2]:List Convoy).length))<|
 (l5 (([c,r4.2,r5.2]:List Convoy).getD i.toNat cR)).bind fun r6=>
 (wW r6).bind fun r7=>
 aP (decide (0≤i)&&decide (i<(([c,r4.2,r5.2]:List Convoy).length:Int)))<|
 aP (decide (i.toNat<([c,r4.2,r5.2]:List Convoy).length))<|
 (ov (([c,r4.2,r5.2]:List Convoy).getD i.toNat cR)).bind fun r8=>
 bif (!(decide (r7.1.Minute=r8.1.Minute)&&(decide (r7.1.First=r8.1.First)&&(decide (r7.1.Second=r8.1.Second)&&(r7.1.FirstFails==r8.1.FirstFails&&(r7.1.SecondFails==r8.1.SecondFails&&(decide (r7.1.At=r8.1.At)&&(decide (r7.1.Other=r8.1.Other)&&true))))))))then
 some false
 else
 bif (r7.2 !=r8.2)then
 some false
 else
 aP (decide (0≤i)&&decide (i<(([c,r4.2,r5.2]:List Convoy).length:Int)))<|
 aP (decide (i.toNat<([c,r4.2,r5.2]:List Convoy).length))<|
 (ft r6 (([c,r4.2,r5.2]:List Convoy).getD i.toNat cR)).bind fun r9=>
 bif (!r9)then
 some false
 else
 kn_ (bG (i+1))
 else
 (ma).bind fun r10=>
 some r10
def mJ(it:It Bool)(c:Convoy)(nums:List Int):Option Bool:=
 (OO c).bind fun r=>
 bif r then
 (ma).bind fun r2=>
 some r2
 else
 (jM nums).bind fun r3=>
 (ir r3 4).bind fun r4=>
 (kd r4.1 3).bind fun r5=>
 it _ (fun(v_0:(Unit×Int×Unit)×(Unit)) kn=>wb c r4 r5 v_0.1.2.1 (fun y0=>kn (((),y0,()),(())))) (((),0,()),(()))
def kS:Convoy→(List Int)→Option Bool:=ij (fun c nums=>mJ cH c nums)
theorem oG(c:Convoy)(nums:List Int):kS c nums=mJ cH c nums:=by unfold kS;rw[bT]
def E4:du ao:=⟨⟨66,[SG,Su,Tm,Tw,QU,Sa],[PN,Rv],[PK],[],[],[],[],[],[],[],[],[],true⟩,[(6,⟨⟨[(6, .osr 23),(7, .v (.int .i64))],[]⟩,[],[23],[]⟩)]⟩
theorem e4(it:It Bool)(c:Convoy)(nums:List Int):fp (ts:=[.bool]) it E4 (aU Tryd.f4) Tryd.f4.results.toList (bY [.Convoy, .sl (.int .i64)] (c,nums,()))=mJ it c nums:=by kernel_rfl
end
end Go.Proofs.Plain04
namespace Go.Proofs.Plain04
open Go Go.Ab
open Go.Proofs.YtafnhieaeejlcaaDoor (ao cK al ck A1 qC jK MB Mu Sm Ss Rg Ru R2 fC AJ)
set_option linter.all false
set_option maxRecDepth 100000
noncomputable section
def nS(s:Go.Proofs.YtafnhieaeejlcaaDoor.Span):Span:=⟨s.lo,s.hi⟩
def vO:Convoy→Option Int:=ij fun c=>some (al (oC c))
theorem yT(c:Convoy):vO c=some (al (oC c)):=by unfold vO;rw[bT]
def vR:Convoy→Option Int:=ij fun c=>some (al (oC c))
theorem yd(c:Convoy):vR c=some (al (oC c)):=by unfold vR;rw[bT]
def vV:Convoy→Option Span:=ij fun c=>aP (al (oC c)==0) (some (nS (qC (oC c))))
theorem Fk(c:Convoy):vV c=aP (al (oC c)==0) (some (nS (qC (oC c)))):=by unfold vV;rw[bT]
def yW:Convoy→Option Span:=ij fun c=>aP (al (oC c)==0) (some (nS (jK (oC c))))
theorem Ci(c:Convoy):yW c=aP (al (oC c)==0) (some (nS (jK (oC c)))):=by unfold yW;rw[bT]
def Tz:cv ao.toSeat:=df ao.toSeat 21 [.Convoy] [.int .i64] true (fun a=>vO a.1) (fun a x hx h h' =>by
 replace hx:vO a.1=some x:=hx;rw[yT]at hx
 simp only[Option.some.injEq]at hx;subst hx
 show au ao.toSeat 21 [(fW .Convoy a.1).b8 h] (.int .i64 (al (oC a.1)))
 rw[sR];exact MB _) (fun _ x=>rfl)
def Tr:cv ao.toSeat:=df ao.toSeat 22 [.Convoy] [.int .i64] true (fun a=>vR a.1) (fun a x hx h h' =>by
 replace hx:vR a.1=some x:=hx;rw[yd]at hx
 simp only[Option.some.injEq]at hx;subst hx
 show au ao.toSeat 22 [(fW .Convoy a.1).b8 h] (.int .i64 (al (oC a.1)))
 rw[sR];exact Mu _) (fun _ x=>rfl)
def SX:cv ao.toSeat:=df ao.toSeat 81 [.Convoy] [.Span] true (fun a=>vV a.1) (fun a x hx h h' =>by
 replace hx:vV a.1=some x:=hx;rw[Fk]at hx
 obtain⟨hc,hx⟩:=ai hx
 simp only[Option.some.injEq]at hx;subst hx
 show au ao.toSeat 81 [(fW .Convoy a.1).b8 h] (.agg (Go.Proofs.YtafnhieaeejlcaaDoor.bA (qC (oC a.1))))
 rw[sR];exact Rg _ (fC (by simpa using hc))) (fun _ x=>rfl)
def SW:cv ao.toSeat:=df ao.toSeat 95 [.Convoy] [.Span] true (fun a=>yW a.1) (fun a x hx h h' =>by
 replace hx:yW a.1=some x:=hx;rw[Ci]at hx
 obtain⟨hc,hx⟩:=ai hx
 simp only[Option.some.injEq]at hx;subst hx
 show au ao.toSeat 95 [(fW .Convoy a.1).b8 h] (.agg (Go.Proofs.YtafnhieaeejlcaaDoor.bA (jK (oC a.1))))
 rw[sR];exact Ru _ (AJ (by simpa using hc))) (fun _ x=>rfl)
end
end Go.Proofs.Plain04
