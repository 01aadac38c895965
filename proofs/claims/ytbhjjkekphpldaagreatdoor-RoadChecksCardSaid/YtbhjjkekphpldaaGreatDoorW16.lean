/- Walks by computing: what each function of the program that the laws reach gives for what it gets, as plain Lean, and that it is so; without a condition but those that stand in each theorem. -/
import Derived.Test.YtbhjjkekphpldaaGreatDoorW1
import Derived.Test.YtbhjjkekphpldaaGreatDoorW2
import Derived.Test.YtbhjjkekphpldaaGreatDoorW3
import Derived.Test.YtbhjjkekphpldaaGreatDoorW4
import Derived.Test.YtbhjjkekphpldaaGreatDoorW5
import Derived.Test.YtbhjjkekphpldaaGreatDoorW6
import Derived.Test.YtbhjjkekphpldaaGreatDoorW7
import Derived.Test.YtbhjjkekphpldaaGreatDoorW8
import Derived.Test.YtbhjjkekphpldaaGreatDoorW9
import Derived.Test.YtbhjjkekphpldaaGreatDoorW10
import Derived.Test.YtbhjjkekphpldaaGreatDoorW11
import Derived.Test.YtbhjjkekphpldaaGreatDoorW12
import Derived.Test.YtbhjjkekphpldaaGreatDoorW13
import Derived.Test.YtbhjjkekphpldaaGreatDoorW14
import Derived.Test.YtbhjjkekphpldaaGreatDoorW15
set_option linter.all false
namespace Go.Proofs.cZ
open Go Go.Ab
open Go.Proofs.YtbhjjkekphpldaaGreatDoorN (ae)
set_option linter.all false
set_option maxRecDepth 100000
noncomputable section
def knT:List KnT:=[⟨(_,_,_),kn0⟩,⟨(_,_,_),kn4⟩,⟨(_,_,_),kn6⟩,⟨(_,_,_),kn7⟩]
def alO:dz ae.toSeat:=af4 3 [1] [] [0] RZ 124 (dB Tryz.f124) Tryz.f124.results.toList knT (fun ls A y hx=>zF (E:=RZ) (mv:=[1]) (fn:=Tryz.f124) Tryz.func124 (by kernel_rfl) (by kernel_rfl) (by kernel_rfl) rfl rfl hx)
theorem am5:dN [.agg abZ]=some (.int .i64 0):=by kernel_rfl
def aop:ak ae.toSeat:=af9 ae 10 [.agg abZ] (.int .i64 0) (fun h=>tr (E:=Px) (fn:=Tryz.f10) Tryz.func10 (by kernel_rfl) (by kernel_rfl) (by kernel_rfl) rfl am5 rfl h)
end
end Go.Proofs.cZ
namespace Go.Proofs.cZ
open Go Go.Ab
open Go.Proofs.YtbhjjkekphpldaaGreatDoorN (ae)
set_option linter.all false
set_option maxRecDepth 100000
noncomputable section
def E99:bJ ae:={ en 55 [aop,aoz,aoA,ad8,Km] [] [(1000018,⟨⟨[],[]⟩,[34],[10034,20034],[]⟩)] with FM:=[alO,aoD,aoE],FG:=[aoB,aoC],FJ:=[adH] }
def as5:ak ae.toSeat:=aV 99 false E99 Tryz.func99 (by kernel_rfl)
def E52:bJ ae:=(en 18 [as5] [] [])
def r52 (A:List I):Option I:=pL E52 (dB Tryz.f52) Tryz.f52.results.toList A
def asN:ak ae.toSeat:=aV 52 true E52 Tryz.func52 (by kernel_rfl)
def E13:bJ ae:=(en 20 [asw,asN] [] [])
def jD (A:List I):Option I:=pL E13 (dB Tryz.f13) Tryz.f13.results.toList A
def asx:ak ae.toSeat:=aV 13 true E13 Tryz.func13 (by kernel_rfl)
def E6:bJ ae:=(en 2 [asx] [] [])
def r6 (A:List I):Option I:=pL E6 (dB Tryz.f6) Tryz.f6.results.toList A
def sp6:ak ae.toSeat:=aV 6 true E6 Tryz.func6 (by kernel_rfl)
end
end Go.Proofs.cZ
namespace Go.Proofs.fu
open Go Go.Ab
open Go.Proofs.YtbhjjkekphpldaaGreatDoor (ae)
set_option linter.all false
set_option maxRecDepth 100000
theorem t6:cZ.r6 []=some (.bool true):=by kernel_rfl
def jw:Option Bool:=some true
noncomputable def sp6:ak ae.toSeat:=lF ae.toSeat 6 [] [.bool] true (fun _=>jw) (fun _ x hx h h'=>by
 cases hx
 exact tr (Z:=Go.Proofs.YtbhjjkekphpldaaGreatDoorN.ae) (E:=cZ.E6) (fn:=Tryz.f6) Tryz.func6 (by kernel_rfl) (by kernel_rfl) (by kernel_rfl) rfl t6 rfl h) (fun _ _=>rfl)
end Go.Proofs.fu
namespace Go.Proofs.fu
open Go Go.Ab
open Go.Proofs.YtbhjjkekphpldaaGreatDoor (ae)
set_option linter.all false
set_option maxRecDepth 100000
noncomputable section
def rC (it:It Bool) (r:Region) (ij:List Int) (kL:Int):Option Bool :=
 (f5 r).bind fun r2 =>
 bif r2 then
 (jw).bind fun r3 =>
 some r3
 else
 (Gm ij).bind fun r4 =>
 (CE r4).bind fun r5 =>
 (Below r5.1 10).bind fun r6 =>
 bif (r6.2 == 0) then
 (f10 r).bind fun r7 =>
 (f11 r).bind fun r8 =>
 bif (r7 == r8) then
 (f10 (⟨⟨r5.2.aI.Reaches,⟨r5.2.aI.eW.a,kL,r5.2.aI.eW.c⟩⟩,r5.2.aN,r5.2.iV,r5.2.fj,r5.2.b9,r5.2.aH,r5.2.aw,r5.2.br,r5.2.bD,r5.2.bb,r5.2.bR⟩:Region)).bind fun r9 =>
 (f11 (⟨⟨r5.2.aI.Reaches,⟨r5.2.aI.eW.a,kL,r5.2.aI.eW.c⟩⟩,r5.2.aN,r5.2.iV,r5.2.fj,r5.2.b9,r5.2.aH,r5.2.aw,r5.2.br,r5.2.bD,r5.2.bb,r5.2.bR⟩:Region)).bind fun dN =>
 bif (r9 == dN) then
 (jw).bind fun jC =>
 some jC
 else
 some false
 else
 some false
 else
 bif (r6.2 == 1) then
 (f10 r).bind fun fX =>
 (f11 r).bind fun jD =>
 bif (fX == jD) then
 (f10 (⟨r5.2.aI,⟨r5.2.aN.fm,r5.2.aN.fS,r5.2.aN.iv,kL,r5.2.aN.Edge,r5.2.aN.jS,r5.2.aN.pA,r5.2.aN.kZ,r5.2.aN.kl,r5.2.aN.ko⟩,r5.2.iV,r5.2.fj,r5.2.b9,r5.2.aH,r5.2.aw,r5.2.br,r5.2.bD,r5.2.bb,r5.2.bR⟩:Region)).bind fun j7 =>
 (f11 (⟨r5.2.aI,⟨r5.2.aN.fm,r5.2.aN.fS,r5.2.aN.iv,kL,r5.2.aN.Edge,r5.2.aN.jS,r5.2.aN.pA,r5.2.aN.kZ,r5.2.aN.kl,r5.2.aN.ko⟩,r5.2.iV,r5.2.fj,r5.2.b9,r5.2.aH,r5.2.aw,r5.2.br,r5.2.bD,r5.2.bb,r5.2.bR⟩:Region)).bind fun jo =>
 bif (j7 == jo) then
 (jw).bind fun nP =>
 some nP
 else
 some false
 else
 some false
 else
 bif (r6.2 == 2) then
 (f10 r).bind fun nr =>
 (f11 r).bind fun nQ =>
 bif (nr == nQ) then
 (f10 (⟨r5.2.aI,r5.2.aN,kL,r5.2.fj,r5.2.b9,r5.2.aH,r5.2.aw,r5.2.br,r5.2.bD,r5.2.bb,r5.2.bR⟩:Region)).bind fun rU =>
 (f11 (⟨r5.2.aI,r5.2.aN,kL,r5.2.fj,r5.2.b9,r5.2.aH,r5.2.aw,r5.2.br,r5.2.bD,r5.2.bb,r5.2.bR⟩:Region)).bind fun qw =>
 bif (rU == qw) then
 (jw).bind fun oo =>
 some oo
 else
 some false
 else
 some false
 else
 bif (r6.2 == 3) then
 (f10 r).bind fun wD =>
 (f11 r).bind fun uS =>
 bif (wD == uS) then
 (f10 (⟨r5.2.aI,r5.2.aN,r5.2.iV,kL,r5.2.b9,r5.2.aH,r5.2.aw,r5.2.br,r5.2.bD,r5.2.bb,r5.2.bR⟩:Region)).bind fun IK =>
 (f11 (⟨r5.2.aI,r5.2.aN,r5.2.iV,kL,r5.2.b9,r5.2.aH,r5.2.aw,r5.2.br,r5.2.bD,r5.2.bb,r5.2.bR⟩:Region)).bind fun IL =>
 bif (IK == IL) then
 (jw).bind fun IM =>
 some IM
 else
 some false
 else
 some false
 else
 bif (r6.2 == 4) then
 ao (decide (0≤0)&&decide (0<(r5.2.aH.ah.length:Int))) <|
 ao (decide (0<r5.2.aH.ah.length)) <|
 let l:List aU:=(r5.2.aH.ah.set 0 (⟨(r5.2.aH.ah.getD 0 ay).Name,(r5.2.aH.ah.getD 0 ay).Kind,(r5.2.aH.ah.getD 0 ay).Open,⟨kL,(r5.2.aH.ah.getD 0 ay).dK.Hi⟩⟩:aU))
 (f10 r).bind fun Y6 =>
 (f11 r).bind fun Y7 =>
 bif (Y6 == Y7) then
 (f10 (⟨r5.2.aI,r5.2.aN,r5.2.iV,r5.2.fj,r5.2.b9,⟨l,r5.2.aH.aZ⟩,r5.2.aw,r5.2.br,r5.2.bD,r5.2.bb,r5.2.bR⟩:Region)).bind fun Y8 =>
 (f11 (⟨r5.2.aI,r5.2.aN,r5.2.iV,r5.2.fj,r5.2.b9,⟨l,r5.2.aH.aZ⟩,r5.2.aw,r5.2.br,r5.2.bD,r5.2.bb,r5.2.bR⟩:Region)).bind fun Y9 =>
 bif (Y8 == Y9) then
 (jw).bind fun Rv =>
 some Rv
 else
 some false
 else
 some false
 else
 bif (r6.2 == 5) then
 ao (decide (0≤0)&&decide (0<(r5.2.aw.eR.length:Int))) <|
 ao (decide (0<r5.2.aw.eR.length)) <|
 (f10 r).bind fun Za =>
 (f11 r).bind fun Zb =>
 bif (Za == Zb) then
 (f10 (⟨r5.2.aI,r5.2.aN,r5.2.iV,r5.2.fj,r5.2.b9,r5.2.aH,⟨r5.2.aw.eX,r5.2.aw.eF,r5.2.aw.cT,r5.2.aw.jb,(r5.2.aw.eR.set 0 (⟨kL,(r5.2.aw.eR.getD 0 aR).bp⟩:cd))⟩,r5.2.br,r5.2.bD,r5.2.bb,r5.2.bR⟩:Region)).bind fun Zc =>
 (f11 (⟨r5.2.aI,r5.2.aN,r5.2.iV,r5.2.fj,r5.2.b9,r5.2.aH,⟨r5.2.aw.eX,r5.2.aw.eF,r5.2.aw.cT,r5.2.aw.jb,(r5.2.aw.eR.set 0 (⟨kL,(r5.2.aw.eR.getD 0 aR).bp⟩:cd))⟩,r5.2.br,r5.2.bD,r5.2.bb,r5.2.bR⟩:Region)).bind fun r35 =>
 bif (Zc == r35) then
 (jw).bind fun r36 =>
 some r36
 else
 some false
 else
 some false
 else
 bif (r6.2 == 6) then
 (f10 r).bind fun r37 =>
 (f11 r).bind fun r38 =>
 bif (r37 == r38) then
 (f10 (⟨r5.2.aI,r5.2.aN,r5.2.iV,r5.2.fj,r5.2.b9,r5.2.aH,r5.2.aw,⟨r5.2.br.lS,kL,r5.2.br.Day,r5.2.br.pB⟩,r5.2.bD,r5.2.bb,r5.2.bR⟩:Region)).bind fun r39 =>
 (f11 (⟨r5.2.aI,r5.2.aN,r5.2.iV,r5.2.fj,r5.2.b9,r5.2.aH,r5.2.aw,⟨r5.2.br.lS,kL,r5.2.br.Day,r5.2.br.pB⟩,r5.2.bD,r5.2.bb,r5.2.bR⟩:Region)).bind fun r40 =>
 bif (r39 == r40) then
 (jw).bind fun r41 =>
 some r41
 else
 some false
 else
 some false
 else
 bif (r6.2 == 7) then
 ao (decide (0≤0)&&decide (0<(r5.2.bD.length:Int))) <|
 ao (decide (0<r5.2.bD.length)) <|
 ao (dH (r5.2.bD.length+([(r5.2.bD.getD 0 cR)]:List Driver).length) 48) <|
 (f10 r).bind fun r42 =>
 (f11 r).bind fun r43 =>
 bif (r42 == r43) then
 (f10 (⟨r5.2.aI,r5.2.aN,r5.2.iV,r5.2.fj,r5.2.b9,r5.2.aH,r5.2.aw,r5.2.br,(r5.2.bD++([(r5.2.bD.getD 0 cR)]:List Driver)),r5.2.bb,r5.2.bR⟩:Region)).bind fun r44 =>
 (f11 (⟨r5.2.aI,r5.2.aN,r5.2.iV,r5.2.fj,r5.2.b9,r5.2.aH,r5.2.aw,r5.2.br,(r5.2.bD++([(r5.2.bD.getD 0 cR)]:List Driver)),r5.2.bb,r5.2.bR⟩:Region)).bind fun r45 =>
 bif (r44 == r45) then
 (jw).bind fun r46 =>
 some r46
 else
 some false
 else
 some false
 else
 bif (r6.2 == 8) then
 (f10 r).bind fun r47 =>
 (f11 r).bind fun r48 =>
 bif (r47 == r48) then
 (f10 (⟨r5.2.aI,r5.2.aN,r5.2.iV,r5.2.fj,r5.2.b9,r5.2.aH,r5.2.aw,r5.2.br,r5.2.bD,⟨r5.2.bb.Zero,kL⟩,r5.2.bR⟩:Region)).bind fun r49 =>
 (f11 (⟨r5.2.aI,r5.2.aN,r5.2.iV,r5.2.fj,r5.2.b9,r5.2.aH,r5.2.aw,r5.2.br,r5.2.bD,⟨r5.2.bb.Zero,kL⟩,r5.2.bR⟩:Region)).bind fun r50 =>
 bif (r49 == r50) then
 (jw).bind fun r51 =>
 some r51
 else
 some false
 else
 some false
 else
 (f10 r).bind fun r52 =>
 (f11 r).bind fun r53 =>
 bif (r52 == r53) then
 (f10 (⟨r5.2.aI,r5.2.aN,r5.2.iV,r5.2.fj,r5.2.b9,r5.2.aH,r5.2.aw,r5.2.br,r5.2.bD,r5.2.bb,⟨r5.2.bR.ju,kL⟩⟩:Region)).bind fun r54 =>
 (f11 (⟨r5.2.aI,r5.2.aN,r5.2.iV,r5.2.fj,r5.2.b9,r5.2.aH,r5.2.aw,r5.2.br,r5.2.bD,r5.2.bb,⟨r5.2.bR.ju,kL⟩⟩:Region)).bind fun r55 =>
 bif (r54 == r55) then
 (jw).bind fun r56 =>
 some r56
 else
 some false
 else
 some false
def roadChecks (r:Region) (ij:List Int) (kL:Int):Option Bool:=bT (fun (a:aE [.Region,.sl (.int .i64),.int .i64])=>rC aB a.1 a.2.1 a.2.2.1) (r,ij,kL,())
theorem yG (r:Region) (ij:List Int) (kL:Int):roadChecks r ij kL=rC aB r ij kL:=bK
def ah9:bJ ae:={ en 93 [sp5,sp6,alN,asv] [70] [] with FR:=[vd],FB:=[sp7],FW:=[sp8] }
theorem ap6:(fun (it:It (eQ [.bool])) (a:aE [.Region,.sl (.int .i64),.int .i64])=>EM it ah9 (dB Tryz.f3) Tryz.f3.results.toList (ck [.Region,.sl (.int .i64),.int .i64] a))=(fun it a=>rC it a.1 a.2.1 a.2.2.1):=by kernel_rfl
end
end Go.Proofs.fu
namespace Go.Proofs.fu
open Go Go.Ab
set_option linter.all false
set_option maxRecDepth 100000
structure Made (r:Region):Prop where
 re:r.aI.Reaches.length≤4
 sh:r.aN.fS.length≤5
 cr:r.aN.iv.length≤5
 a1:1≤r.aH.ah.length
 ac:r.aH.ah.length≤4
 na:NA r.aH.ah
 mo:r.aH.aZ.length≤3
 rs:wY r.aw
 ch:r.aw.eR≠[]
 d1:1≤r.bD.length
 dr:r.bD.length≤3
 dn:∀ d∈r.bD,CG d
theorem nm3:∀ k:Nat,([(⟨#[97,110,110]⟩:ByteArray),⟨#[98,111,98]⟩,⟨#[99,97,116]⟩].getD k ⟨#[]⟩).size≤1000000
 |0|1|2=>by decide
 |n+3=>by simp;decide
theorem VY (s:ax):Ok (fun r=>Made r.2) (CE s):=by
 rw[OU];unfold ur
 refine Ok.bind (V3 _) fun r h1=>Ok.bind (ZV _) fun r2 h2=>?_
 refine db fun _=>?_
 refine Ok.bind (VZ _) fun r4 h4=>?_
 refine db fun _=>db fun _=>db fun _=>db fun _=>db fun _=>db fun _=>db fun _=>db fun _=>?_
 refine Ok.rounds (fun v=>0≤v.1.2.2.2.1∧v.1.2.2.2.1≤(v.2.1.1.length:Int)∧v.2.1.1.length≤4∧v.2.1.2.2.2.2.2.2.1.length≤5∧v.2.1.2.2.2.2.2.2.2.1.length≤5) (fun v=>((v.2.1.1.length:Int) - v.1.2.2.2.1).toNat) (k8 (by simp only;omega)) ⟨by simp,by simp,h1,h2.1,h2.2⟩ ?_
 intro v kn ⟨q0,q1,q2,q3,q4⟩ hk
 unfold BZ
 refine Ok.ite (fun h=>?_) fun h=>?_
 ·have hi:=of_decide_eq_true h
  have e:aj (v.1.2.2.2.1+1)=v.1.2.2.2.1+1:=b7 (by omega) (by omega)
  refine Ok.ao (by simp;omega) ?_
  refine gp (gp (gp (gp (gp (gp (gp (gp ?_)))))))
  refine hk _ ⟨?_,?_,?_,q3,q4⟩ ?_
  ·simp only[e];omega
  ·simp only[e,List.length_set];omega
  ·simp only[List.length_set];omega
  ·simp only[e,List.length_set];omega
 ·clear hk
  refine db fun _=>db fun _=>db fun _=>db fun _=>db fun _=>db fun _=>db fun _=>db fun _=>?_
  refine Ok.bind (aeI _ _) fun oo Ij=>Ok.bind (qC _ (by decide) (by decide) (by decide)) fun wD h22=>?_
  refine Ok.rounds (fun v=>0≤v.1.2.2.2.2.1∧1≤v.2.2.1.2.2.2.2.2.2.2.2.2.2.2.2.2.2.2.2.2.2.2.2.2.2.2.2.2.2.2.2.2.2.1.length+v.1.2.2.2.2.1∧v.2.2.1.2.2.2.2.2.2.2.2.2.2.2.2.2.2.2.2.2.2.2.2.2.2.2.2.2.2.2.2.2.2.1.length+v.1.2.2.2.2.1≤3∧v.2.2.1.2.2.2.2.2.2.1.length≤5∧v.2.2.1.2.2.2.2.2.2.2.1.length≤5∧∀ d∈v.2.2.1.2.2.2.2.2.2.2.2.2.2.2.2.2.2.2.2.2.2.2.2.2.2.2.2.2.2.2.2.2.2.1,CG d) (fun v=>(v.1.2.2.2.2.1).toNat) (k8 (by simp only;omega)) ⟨by simp only;omega,by simp;omega,by simp;omega,q3,q4,by simp⟩ ?_
  intro v2 kn ⟨p1,p2,p3,p4,p5,p6⟩ hk
  unfold yQ
  refine Ok.ite (fun h=>?_) fun h=>?_
  ·have hi:=of_decide_eq_true h
   have e:aj (v2.1.2.2.2.2.1 - 1)=v2.1.2.2.2.2.1 - 1:=b7 (by omega) (by omega)
   refine gp (gp (db fun _=>?_))
   refine Ok.ao (fit (by simp;omega)) (hk _ ⟨?_,?_,?_,p4,p5,?_⟩ ?_)
   ·simp only[e];omega
   ·simp only[e,List.length_append,List.length_cons,List.length_nil];omega
   ·simp only[e,List.length_append,List.length_cons,List.length_nil];omega
   ·intro d hd
    rcases List.mem_append.1 hd with h|h
    ·exact p6 d h
    ·rw[List.mem_singleton.1 h];exact⟨nm3 _,Nat.zero_le _⟩
   ·simp only[e];omega
  ·have hi:=of_decide_eq_false h
   exact Ok.some ⟨q2,p4,p5,Ij.1,Ij.2.1,Ij.2.2.1,Ij.2.2.2,h4.1,h4.2,by simp only;omega,by simp only;omega,p6⟩
theorem xy {α:Type}{P:α→Prop}{l:List α}{d:α} (h:∀ a∈l,P a) (i:Nat) (hi:i<l.length):P (l.getD i d):=by
 rw[List.getD_eq_getElem?_getD,List.getElem?_eq_getElem hi]
 exact h _ (List.getElem_mem hi)
theorem Made.sml {r:Region} (h:Made r):HJ r:=⟨by have:=h.re;omega,by have:=h.sh;omega,by have:=h.cr;omega,by have:=h.ac;omega,fun i hi=>by have:=xy (d:=ay) h.na i hi;omega,by have:=h.mo;omega,h.rs,by have:=h.dr;omega,fun i hi=>xy h.dn i hi⟩
theorem abd (x:aw) (hp:x.eF.length≤20) (ho:x.cT.length≤5) (hw:x.jb.length≤50) (hc:x.eR.length≤25):Ok (fun b=>b=false→wY x) (aB _ (fun (v_0:(Unit×Int×Unit)×(Unit)) kn=>LS x v_0.1.2.1 (fun y0=>kn (((),y0,()),(())))) (((),0,()),(()))):=by
 refine Ok.rounds (fun v=>0≤v.1.2.1∧v.1.2.1≤x.cT.length∧∀ i:Nat,i<v.1.2.1→(x.cT.getD i ey).nX.length≤1000000) (fun v=>((x.cT.length:Int) - v.1.2.1).toNat) (k8 (by simp only;omega)) ⟨by simp,by simp,fun i hi=>by simp only at hi;omega⟩ ?_
 rintro ⟨⟨_,i,_⟩,_⟩ kn ⟨h0,h1,h2⟩ hk
 simp only at h0 h1 h2
 refine Ok.ite (fun h=>?_) fun h=>Ok.some fun _=>⟨by omega,by omega,by omega,by omega,fun j hj=>h2 j ?_⟩
 ·have hi:=of_decide_eq_true h;simp only at hi
  have e:aj (i+1)=i+1:=b7 (by omega) (by omega)
  refine gp ?_
  refine Ok.ite (fun _=>Ok.some (by simp)) fun h=>hk _ ⟨by simp only[e];omega,by simp only[e];omega,fun j hj=>?_⟩ (by simp only[e];omega)
  simp only[e]at hj
  by_cases MN:(j:Int)<i
  ·exact h2 j MN
  ·have ej:j=i.toNat:=by omega
   have:=of_decide_eq_false h
   subst ej;simp only at this;omega
 ·have:=of_decide_eq_false h;simp only at this;omega
theorem aic (x:aw):Ok (fun b=>b=false→wY x) (f14 x):=by
 have N:∀ {b:Bool},b=true→(b=false→wY x):=fun h h2=>by rw[h]at h2;cases h2
 have key:Ok (fun b=>b=false→wY x) (bif (decide ((x.eF.length:Int) > 20)) then some true else bif (decide ((x.cT.length:Int) > 5)) then some true else bif (decide ((x.jb.length:Int) > 50)) then some true else bif (decide ((x.eR.length:Int) > 25)) then some true else aB _ (fun (v_0:(Unit×Int×Unit)×(Unit)) kn=>LS x v_0.1.2.1 (fun y0=>kn (((),y0,()),(())))) (((),0,()),(()))):=by
  refine Ok.ite (fun _=>Ok.some (N rfl)) fun a=>Ok.ite (fun _=>Ok.some (N rfl)) fun b=>Ok.ite (fun _=>Ok.some (N rfl)) fun c=>Ok.ite (fun _=>Ok.some (N rfl)) fun d=>?_
  have a:=of_decide_eq_false a
  have b:=of_decide_eq_false b
  have c:=of_decide_eq_false c
  have d:=of_decide_eq_false d
  exact abd x (by omega) (by omega) (by omega) (by omega)
 rw[aib];unfold SU
 exact Ok.ite (fun _=>Ok.ite (fun _=>Ok.some (N rfl)) fun _=>key) fun _=>key
theorem anc (r:Region):Ok (fun b=>b=false→HJ r) (f5 r):=by
 have N:∀ {b:Bool},b=true→(b=false→HJ r):=fun h h2=>by rw[h]at h2;cases h2
 rw[anb];unfold f5'
 refine Ok.ite (fun _=>Ok.some (N rfl)) fun a=>Ok.ite (fun _=>Ok.some (N rfl)) fun b=>Ok.ite (fun _=>Ok.some (N rfl)) fun c=>Ok.ite (fun _=>Ok.some (N rfl)) fun d=>Ok.ite (fun _=>Ok.some (N rfl)) fun e=>Ok.ite (fun _=>Ok.some (N rfl)) fun f=>?_
 have a:=of_decide_eq_false a
 have b:=of_decide_eq_false b
 have c:=of_decide_eq_false c
 have d:=of_decide_eq_false d
 have e:=of_decide_eq_false e
 have f:=of_decide_eq_false f
 refine Ok.bind (aic _) fun r2 h2=>Ok.ite (fun _=>Ok.some (N rfl)) fun hr=>?_
 have hR:=h2 hr
 refine Ok.rounds (fun v=>0≤v.1.2.1∧v.1.2.1≤r.aH.ah.length∧∀ i:Nat,i<v.1.2.1→(r.aH.ah.getD i ay).Name.size≤1000000) (fun v=>((r.aH.ah.length:Int) - v.1.2.1).toNat) (k8 (by simp only;omega)) ⟨by simp,by simp,fun i hi=>by simp only at hi;omega⟩ ?_
 rintro ⟨⟨_,i,_⟩,_⟩ kn ⟨h0,h1,h2⟩ hk
 simp only at h0 h1 h2
 refine Ok.ite (fun h=>?_) fun h=>?_
 ·have hi:=of_decide_eq_true h;simp only at hi
  have e:aj (i+1)=i+1:=b7 (by omega) (by omega)
  refine gp ?_
  refine Ok.ite (fun _=>Ok.some (N rfl)) fun h=>hk _ ⟨by simp only[e];omega,by simp only[e];omega,fun j hj=>?_⟩ (by simp only[e];omega)
  simp only[e]at hj
  by_cases MN:(j:Int)<i
  ·exact h2 j MN
  ·have ej:j=i.toNat:=by omega
   have:=of_decide_eq_false h
   subst ej;simp only at this;omega
 have g:=of_decide_eq_false h;simp only at g
 clear hk
 refine Ok.rounds (fun v=>0≤v.1.2.1∧v.1.2.1≤r.bD.length∧∀ i:Nat,i<v.1.2.1→CG (r.bD.getD i cR)) (fun v=>((r.bD.length:Int) - v.1.2.1).toNat) (k8 (by simp only;omega)) ⟨by simp,by simp,fun i hi=>by simp only at hi;omega⟩ ?_
 rintro ⟨⟨_,j,_⟩,_⟩ kn ⟨p0,p1,p2⟩ hk
 simp only at p0 p1 p2
 refine Ok.ite (fun h=>?_) fun h=>?_
 ·have hi:=of_decide_eq_true h;simp only at hi
  have e:aj (j+1)=j+1:=b7 (by omega) (by omega)
  refine gp ?_
  refine Ok.ite (fun _=>Ok.some (N rfl)) fun n1=>?_
  refine gp ?_
  refine Ok.ite (fun _=>Ok.some (N rfl)) fun n2=>hk _ ⟨by simp only[e];omega,by simp only[e];omega,fun k hj=>?_⟩ (by simp only[e];omega)
  simp only[e]at hj
  by_cases MN:(k:Int)<j
  ·exact p2 k MN
  ·have ej:k=j.toNat:=by omega
   have n1:=of_decide_eq_false n1
   have n2:=of_decide_eq_false n2
   subst ej;simp only at n1 n2;exact⟨by omega,by omega⟩
 have g2:=of_decide_eq_false h;simp only at g2
 have S:HJ r:=⟨by omega,by omega,by omega,by omega,fun k hk=>h2 k (by omega),by omega,hR,by omega,fun k hk=>p2 k (by omega)⟩
 obtain ⟨n1,_,e1⟩:=Wi r.aI S.re
 obtain ⟨n2,_,e2⟩:=Wh r.aI S.re
 rw[e1,e2]
 exact Ok.ite (fun _=>Ok.ite (fun _=>Ok.some (N rfl)) fun _=>Ok.ite (fun _=>Ok.some fun _=>S) fun _=>Ok.some fun _=>S) fun _=>Ok.some fun _=>S
theorem same (r:Region) (h:HJ r) {x:Option Bool} (hx:Ok (fun b=>b=true) x):Ok (fun b=>b=true) ((f10 r).bind fun a=>(f11 r).bind fun b=>bif (a == b) then x else some false):=by
 obtain ⟨a,e1,e2⟩:=ahy r h
 rw[e1,e2]
 simp only[Option.bind_some,beq_self_eq_true,cond_true]
 exact hx
theorem F2 (r:Region) (ij:List Int) (kL:Int) (hn:ij.length≤9223372036854775807):roadChecks r ij kL=some true:=by
 have A:Ok (fun b=>b=true) (jw.bind fun r=>some r):=⟨true,by rw[show jw=some true from rfl];rfl,rfl⟩
 suffices h:Ok (fun b=>b=true) (roadChecks r ij kL) by
  obtain ⟨b,e1,e2⟩:=h
  rw[e1,e2]
 rw[yG];unfold rC
 refine Ok.bind (anc r) fun r2 h2=>Ok.ite (fun _=>A) fun hr=>?_
 have S:=h2 hr
 refine Ok.bind (Sc hn) fun r4 _=>Ok.bind (VY r4) fun r5 M=>?_
 have T:=M.sml
 obtain ⟨re,sh,cr,a1,ac,na,mo,rs,ch,d1,dr,dn⟩:=M
 obtain ⟨t1,t2,t3,t4,t5,t6,t7,t8,t9⟩:=T
 have T:∀ {x:Region},x.aI.Reaches=r5.2.aI.Reaches→x.aN.fS=r5.2.aN.fS→x.aN.iv=r5.2.aN.iv→x.aH=r5.2.aH→x.aw=r5.2.aw→x.bD=r5.2.bD→HJ x:=fun e1 e2 e3 e4 e5 e6=>⟨e1 ▸ t1,e2 ▸ t2,e3 ▸ t3,e4 ▸ t4,e4 ▸ t5,e4 ▸ t6,e5 ▸ t7,e6 ▸ t8,e6 ▸ t9⟩
 have Q:∀ {x:Region},HJ x→Ok (fun b=>b=true) ((f10 r).bind fun a=>(f11 r).bind fun b=>bif (a == b) then (f10 x).bind fun a=>(f11 x).bind fun b=>bif (a == b) then (jw.bind fun r=>some r) else some false else some false):=fun hx=>same r S (same _ hx A)
 refine db fun _=>?_
 refine Ok.ite (fun _=>Q (T rfl rfl rfl rfl rfl rfl)) fun _=>?_
 refine Ok.ite (fun _=>Q (T rfl rfl rfl rfl rfl rfl)) fun _=>?_
 refine Ok.ite (fun _=>Q (T rfl rfl rfl rfl rfl rfl)) fun _=>?_
 refine Ok.ite (fun _=>Q (T rfl rfl rfl rfl rfl rfl)) fun _=>?_
 refine Ok.ite (fun _=>?_) fun _=>?_
 ·refine gp (gp ?_)
  refine Q ⟨t1,t2,t3,by simp;omega,fun i hi=>?_,t6,t7,t8,t9⟩
  have:=xy (d:=ay) (VU na (i:=0) (r5.2.aH.ah.getD 0 ay).Kind (r5.2.aH.ah.getD 0 ay).Open ⟨kL,(r5.2.aH.ah.getD 0 ay).dK.Hi⟩ (by omega)) i hi
  exact Nat.le_trans this (by decide)
 refine Ok.ite (fun _=>?_) fun _=>?_
 ·have hc:=List.length_pos_iff.2 ch
  refine gp (gp ?_)
  exact Q ⟨t1,t2,t3,t4,t5,t6,⟨t7.1,t7.2.1,t7.2.2.1,by simp;exact t7.2.2.2.1,t7.2.2.2.2⟩,t8,t9⟩
 refine Ok.ite (fun _=>Q (T rfl rfl rfl rfl rfl rfl)) fun _=>?_
 refine Ok.ite (fun _=>?_) fun _=>?_
 ·refine gp (gp ?_)
  refine Ok.ao (fit (by simp;omega)) (Q ⟨t1,t2,t3,t4,t5,t6,t7,by simp;omega,fun i hi=>xy (P:=CG) (fun d hd=>?_) i hi⟩)
  rcases List.mem_append.1 hd with h|h
  ·exact dn d h
  ·rw[List.mem_singleton.1 h];exact t9 0 (by omega)
 exact Ok.ite (fun _=>Q (T rfl rfl rfl rfl rfl rfl)) fun _=>Q (T rfl rfl rfl rfl rfl rfl)
end Go.Proofs.fu
