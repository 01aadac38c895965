/- Walks by computing: what each function of the program that the laws reach gives for what it gets, as plain Lean, and that it is so; without a condition but those that stand in each theorem. -/
import Derived.Test.YtafnhieaeejlcaaDoorW1
import Derived.Test.YtafnhieaeejlcaaDoorW2
import Derived.Test.YtafnhieaeejlcaaDoorW3
import Derived.Test.YtafnhieaeejlcaaDoorW4
import Derived.Test.YtafnhieaeejlcaaDoorW5
import Derived.Test.YtafnhieaeejlcaaDoorW6
import Derived.Test.YtafnhieaeejlcaaDoorW7
import Derived.Test.YtafnhieaeejlcaaDoorW8
import Derived.Test.YtafnhieaeejlcaaDoorW9
import Derived.Test.YtafnhieaeejlcaaDoorW10
import Derived.Test.YtafnhieaeejlcaaDoorW11
import Derived.Test.YtafnhieaeejlcaaDoorW12
import Derived.Test.YtafnhieaeejlcaaDoorW13
import Derived.Test.YtafnhieaeejlcaaDoorW14
set_option linter.all false
namespace Go.Proofs.Plain04
open Go Go.Ab
open Go.Proofs.YtafnhieaeejlcaaDoor (av)
set_option linter.all false
set_option maxRecDepth 100000
noncomputable section
def KG(a:List Int)(b:List Int)(i:Int)(kn_:Int→Option Bool):Option Bool:=
 bif (decide (i<(a.length:Int)))then
 aW (decide (0≤i)&&decide (i<(a.length:Int)))<|
 aW (decide (0≤i)&&decide (i<(b.length:Int)))<|
 bif ((a.getD i.toNat 0) !=(b.getD i.toNat 0))then
 some false
 else
 kn_ (bz (i+1))
 else
 some true
def HL(it:It Bool)(a:List Int)(b:List Int):Option Bool:=
 bif ((a.length:Int) !=(b.length:Int))then
 some false
 else
 it _ (fun(v_0:(Int×Unit)×(Unit)) kn=>KG a b v_0.1.1 (fun y0=>kn ((y0,()),(())))) ((0,()),(()))
def AR:(List Int)→(List Int)→Option Bool:=iR (fun a b=>HL cS a b)
theorem Ap(a:List Int)(b:List Int):AR a b=HL cS a b:=by unfold AR;rw[cd]
def SG:dC av:=⟨⟨26,[],[],[],[],[],[],[],[],[],[],[],[],true⟩,[(4,⟨⟨[(5, .v (.int .i64))],[]⟩,[0,1],[],[]⟩)]⟩
theorem TH(it:It Bool)(a:List Int)(b:List Int):fW (ts:=[.bool]) it SG (bb Tryd.f57) Tryd.f57.results.toList (b6 [.sl (.int .i64), .sl (.int .i64)] (a,b,()))=HL it a b:=by kernel_rfl
def RV:cK av.toSeat:=dK av.toSeat 57 [.sl (.int .i64), .sl (.int .i64)] [.bool] true (fun a=>AR a.1 a.2.1) (fun a x hx h h' =>bW (Z:=av) (ats:=[.sl (.int .i64), .sl (.int .i64)]) (ts:=[.bool]) (E:=SG) (fn:=Tryd.f57) (c:=bb Tryd.f57) Tryd.func57 (by kernel_rfl) (by kernel_rfl) (by kernel_rfl) (by kernel_rfl) rfl ((TH cS a.1 a.2.1).trans ((Ap a.1 a.2.1).symm.trans hx)) h h') (fun _ x=>rfl)
def R5(it:It (List Int))(l:List Int):Option (List Int):=
 aW (gU (([]:List Int).length+l.length) 8)<|
 some (([]:List Int)++l)
def Own:(List Int)→Option (List Int):=iR (fun l=>R5 cS l)
def Jf(gone:List Int)(length:Int)(m:Int)(kn_:Int→Option Int):Option Int:=
 bif (decide (m<(gone.length:Int)))then
 aW (decide (0≤m)&&decide (m<(gone.length:Int)))<|
 bif (decide ((gone.getD m.toNat 0)≥length))then
 some m
 else
 kn_ (bz (m+1))
 else
 some (bz ((gone.length:Int)-1))
def N3(it:It Int)(gone:List Int)(length:Int):Option Int:=
 it _ (fun(v_0:(Int×Unit)×(Unit)) kn=>Jf gone length v_0.1.1 (fun y0=>kn ((y0,()),(())))) ((0,()),(()))
def first:(List Int)→Int→Option Int:=iR (fun gone length=>N3 cS gone length)
def IZ(a:br)(b:br)(n:bE)(m:Int)(kn_:Int→Option Bool):Option Bool:=
 (kS a.a).bind fun r=>
 (kS b.a).bind fun r2=>
 bif (decide (m≤(min r r2)))then
 (rK n a b m).bind fun r3=>
 bif r3.2 then
 some false
 else
 kn_ (bz (m+1))
 else
 some true
def EJ(it:It Bool)(n:bE)(a:br)(b:br):Option Bool:=
 it _ (fun(v_0:(Unit×Unit×Int×Unit)×(Unit)) kn=>IZ a b n v_0.1.2.2.1 (fun y0=>kn (((),(),y0,()),(())))) (((),(),(max a.a.ride.Truck.Start b.a.ride.Truck.Start),()),(()))
def apart:bE→br→br→Option Bool:=iR (fun n a b=>EJ cS n a b)
theorem Bv(n:bE)(a:br)(b:br):apart n a b=EJ cS n a b:=by unfold apart;rw[cd]
def Sp:dC av:=⟨⟨44,[QG,P7],[],[],[],[],[],[],[],[],[],[],[],true⟩,[(3,⟨⟨[(4, .bx 4 0),(5, .bx 5 0),(8, .v (.int .i64))],[]⟩,[7],[4,5],[]⟩)]⟩
theorem Tr(it:It Bool)(n:bE)(a:br)(b:br):fW (ts:=[.bool]) it Sp (bb Tryd.f92) Tryd.f92.results.toList (b6 [.bE, .br, .br] (n,a,b,()))=EJ it n a b:=by kernel_rfl
def QZ:cK av.toSeat:=dK av.toSeat 92 [.bE, .br, .br] [.bool] true (fun a=>apart a.1 a.2.1 a.2.2.1) (fun a x hx h h' =>bW (Z:=av) (ats:=[.bE, .br, .br]) (ts:=[.bool]) (E:=Sp) (fn:=Tryd.f92) (c:=bb Tryd.f92) Tryd.func92 (by kernel_rfl) (by kernel_rfl) (by kernel_rfl) (by kernel_rfl) rfl ((Tr cS a.1 a.2.1 a.2.2.1).trans ((Bv a.1 a.2.1 a.2.2.1).symm.trans hx)) h h') (fun _ x=>rfl)
def KR(trucks:Int)(starts:Int)(n:Int)(i:Int)(kn_:Int→Int→Option Int):Option Int:=
 bif (decide (i<trucks))then
 kn_ (bz (n*starts)) (bz (i+1))
 else
 some n
def Js(it:It Int)(trucks:Int)(starts:Int):Option Int:=
 it _ (fun(v_0:(Int×Int×Unit)×(Unit)) kn=>KR trucks starts v_0.1.1 v_0.1.2.1 (fun y0 y1=>kn ((y0,y1,()),(())))) ((1,0,()),(()))
def many:Int→Int→Option Int:=iR (fun trucks starts=>Js cS trucks starts)
theorem Gu(trucks:Int)(starts:Int):many trucks starts=Js cS trucks starts:=by unfold many;rw[cd]
def SL:dC av:=⟨⟨16,[],[],[],[],[],[],[],[],[],[],[],[],true⟩,[(3,⟨⟨[(5, .v (.int .i64)),(6, .v (.int .i64))],[]⟩,[0,1],[],[]⟩)]⟩
theorem S6(it:It Int)(trucks:Int)(starts:Int):fW (ts:=[.int .i64]) it SL (bb Tryd.f58) Tryd.f58.results.toList (b6 [.int .i64, .int .i64] (trucks,starts,()))=Js it trucks starts:=by kernel_rfl
def RM:cK av.toSeat:=dK av.toSeat 58 [.int .i64, .int .i64] [.int .i64] true (fun a=>many a.1 a.2.1) (fun a x hx h h' =>bW (Z:=av) (ats:=[.int .i64, .int .i64]) (ts:=[.int .i64]) (E:=SL) (fn:=Tryd.f58) (c:=bb Tryd.f58) Tryd.func58 (by kernel_rfl) (by kernel_rfl) (by kernel_rfl) (by kernel_rfl) rfl ((S6 cS a.1 a.2.1).trans ((Gu a.1 a.2.1).symm.trans hx)) h h') (fun _ x=>rfl)
def nP(it:It Bool)(n:Int):Option Bool:=
 (Qe n 0 10000).bind fun r=>
 some (!r)
def kU:Int→Option Bool:=iR (fun n=>nP cS n)
theorem qq(n:Int):kU n=nP cS n:=by unfold kU;rw[cd]
def PF:dC av:=⟨⟨6,[Q6],[],[],[],[],[],[],[],[],[],[],[],true⟩,[]⟩
theorem Q5(it:It Bool)(n:Int):fW (ts:=[.bool]) it PF (bb Tryd.f101) Tryd.f101.results.toList (b6 [.int .i64] (n,()))=nP it n:=by kernel_rfl
def Qd:cK av.toSeat:=dK av.toSeat 101 [.int .i64] [.bool] true (fun a=>kU a.1) (fun a x hx h h' =>bW (Z:=av) (ats:=[.int .i64]) (ts:=[.bool]) (E:=PF) (fn:=Tryd.f101) (c:=bb Tryd.f101) Tryd.func101 (by kernel_rfl) (by kernel_rfl) (by kernel_rfl) (by kernel_rfl) rfl ((Q5 cS a.1).trans ((qq a.1).symm.trans hx)) h h') (fun _ x=>rfl)
end
end Go.Proofs.Plain04
namespace Go.Proofs.Plain04
open Go Go.Ab
set_option linter.all false
theorem Lb(n:Int):0≤IntKind.u64.wrap n∧IntKind.u64.wrap n<18446744073709551616:=by
 unfold IntKind.wrap
 simp[IntKind.bits,IntKind.signed]
 omega
theorem MM{n:Int}(h1:0≤n)(h2:n<18446744073709551616):IntKind.u64.wrap n=n:=by
 unfold IntKind.wrap
 simp[IntKind.bits,IntKind.signed]
 omega
theorem FD(s:aK):Ok (fun r=>0≤r.2∧r.2<18446744073709551616) (next s):=by
 rw[Fv]
 exact⟨_,rfl,Lb _⟩
theorem cT(s:aK){n:Int}(hn:n≤1000000000):Ok (fun r=>0≤r.2∧(r.2<n∨r.2=0)) (Below s n):=by
 rw[BM]
 refine Ok.ite (fun h=>Ok.some ⟨Int.le_refl _, .inr rfl⟩) fun h=> ?_
 have hn2:¬n<2:=by simpa using h
 refine Ok.bind (FD s) fun r hr=> ?_
 have hu:IntKind.u64.wrap n=n:=MM (by omega) (by omega)
 refine Ok.aW (by rw[hu];simp;omega) (Ok.some ?_)
 rw[hu]
 have e:xB .u64 r.2 1=r.2/2:=by
  unfold xB
  rw[Int.fdiv_eq_ediv_of_nonneg _ (by decide)]
  simp[IntKind.bits]
 rw[e,Int.tmod_eq_emod_of_nonneg (by omega)]
 have h1:=Int.emod_nonneg (r.2/2) (show n≠0 by omega)
 have h2:=Int.emod_lt_of_pos (r.2/2) (show 0<n by omega)
 rw[aY (by omega) (by omega)]
 exact⟨h1, .inl h2⟩
theorem Nc(s:aK){n:Int}(hn:n≤1000000000):Ok (fun _=>True) (P5 s n):=by
 rw[JK]
 exact Ok.bind (cT s hn) fun r _=>Ok.some trivial
theorem jm(s:aK){low high:Int}(h1: -1000000≤low)(h2:low≤1000000)(h3: -1000000≤high)(h4:high≤1000000):Ok (fun r=>low≤r.2∧(r.2≤high∨r.2=low)) (wj s low high):=by
 rw[FH]
 refine Ok.bind (cT s (n:=bz (bz (high-low)+1)) ?_) fun r hr=>Ok.some ?_
 ·rw[aY (n:=high-low) (by omega) (by omega),aY (by omega) (by omega)];omega
 ·rw[aY (n:=high-low) (by omega) (by omega),aY (n:=high-low+1) (by omega) (by omega)]at hr
  simp only
  rw[aY (by omega) (by omega)]
  omega
theorem vY(s:aK){l:List Int}(h0:l≠[])(hl:l.length≤1000):Ok (fun r=>r.2∈l) (Of s l):=by
 rw[L8]
 have hp:0<l.length:=List.length_pos_iff.2 h0
 refine Ok.ite (fun h=> ?_) fun h=>Ok.bind (cT s (n:=(l.length:Int)) (by omega)) fun r hr=>Ok.aW ?_ (Ok.some ?_)
 ·simp at h;exact absurd h h0
 ·simp;omega
 ·simp only
  rw[List.getD_eq_getElem?_getD,List.getElem?_eq_getElem (by omega)]
  exact List.getElem_mem _
theorem wm(s:aK){length holds:Int}(h1:0≤length)(h2:length≤1000000)(h3:0≤holds)(h4:holds≤100):Ok (fun r=>(r.2.Holds.length:Int)≤holds) (j3 s length holds):=by
 rw[qL]
 refine Ok.bind (jm s (by omega) (by omega) (by omega) (by omega)) fun r hr=> ?_
 refine Ok.bind (cT _ (by omega)) fun r2 hr2=> ?_
 refine Ok.bind (cT _ (by omega)) fun r3 hr3=> ?_
 refine Ok.bind (vY _ (by simp) (by simp)) fun r4 hr4=> ?_
 refine Ok.bind (jm _ (by omega) (by omega) (by omega) (by omega)) fun r5 hr5=> ?_
 refine Ok.bind (cT _ (by omega)) fun r6 hr6=> ?_
 refine Ok.bind (vY _ (by simp) (by simp)) fun r7 hr7=> ?_
 refine Ok.bind (cT _ (by rw[aY (by omega) (by omega)];omega)) fun r8 hr8=> ?_
 rw[aY (n:=holds+1) (by omega) (by omega)]at hr8
 refine Ok.rounds (fun v=>0≤v.1.2.2.2.2.1∧v.1.2.2.2.2.1≤holds∧(v.2.2.1.2.2.2.2.1.length:Int)+v.1.2.2.2.2.1≤holds∧0≤v.1.2.2.2.1∧v.1.2.2.2.1≤1000000) (fun v=>v.1.2.2.2.2.1.toNat) ?_ ?_ ?_
 ·show r8.2.toNat<18446744073709551616
  omega
 ·simp;omega
 ·rintro ⟨⟨_,_,_,at_,i,_⟩,⟨w,_⟩,⟨way,st,lo,hi,hs,_⟩,_⟩ kn hi' hk
  simp only at hi'
  refine Ok.ite (fun hc=>Ok.ite (fun hc2=> ?_) fun _=>Ok.some (by simp only;omega)) fun _=>Ok.some (by simp only;omega)
  simp only[decide_eq_true_eq]at hc hc2
  rw[aY (n:=length-1) (by omega) (by omega)]at hc2
  have e1:bz (at_+1)=at_+1:=aY (by omega) (by omega)
  have e2:bz (length-1)=length-1:=aY (by omega) (by omega)
  refine Ok.bind (jm _ (low:=bz (at_+1)) (high:=bz (length-1)) (by omega) (by omega) (by omega) (by omega)) fun r9 hr9=> ?_
  rw[e1,e2]at hr9
  refine Ok.bind (cT _ (by omega)) fun r10 hr10=> ?_
  have hi1:bz (i-1)=i-1:=aY (by omega) (by omega)
  refine Ok.ite (fun _=> ?_) fun _=> ?_
  all_goals
   refine Ok.aW (eY (by simp;omega) (by omega)) (hk _ ?_ ?_)
   ·simp[hi1];omega
   ·simp[hi1];omega
theorem Ll(s:aK){c:Convoy}(hc:c.Trucks.length≤1000):Ok (fun r=>r.2.Trucks=c.Trucks) (wide s c):=by
 rw[FZ]
 refine Ok.rounds (fun v=>v.2.1.2.2.2.1=c.Trucks∧0≤v.1.2.2.2.1∧v.1.2.2.2.1≤c.Trucks.length) (fun v=>((c.Trucks.length:Int)-v.1.2.2.2.1).toNat) ?_ ?_ ?_
 ·show((c.Trucks.length:Int)-0).toNat<18446744073709551616
  omega
 ·simp
 ·rintro ⟨⟨_,_,_,i,_⟩,⟨len,gap,fails,ts,_⟩,_⟩ kn hi' hk
  simp only at hi'
  obtain⟨rfl,h1,h2⟩:=hi'
  refine Ok.ite (fun hlt=> ?_) fun _=> ?_
  ·simp only[decide_eq_true_eq]at hlt
   have e:bz (i+1)=i+1:=aY (by omega) (by omega)
   refine Ok.aW (by simp;omega) (hk _ ?_ ?_)
   ·simp[e];omega
   ·simp[e];omega
  ·refine Ok.bind (cT _ (by omega)) fun r hr=>Ok.bind (vY _ (by simp) (by simp)) fun r2 hr2=>Ok.some rfl
theorem Df(s:aK){most:Int}(h0:0≤most)(h1:most≤100):Ok (fun r=>(r.2.Trucks.length:Int)≤most∧∀t∈r.2.Trucks,t.Holds.length≤3) (o7 s most):=by
 rw[tY]
 refine Ok.bind (jm s (by omega) (by omega) (by omega) (by omega)) fun r hr=> ?_
 refine Ok.bind (cT _ (by omega)) fun r2 hr2=> ?_
 refine Ok.bind (cT _ (by rw[aY (by omega) (by omega)];omega)) fun r3 hr3=> ?_
 rw[aY (n:=most+1) (by omega) (by omega)]at hr3
 refine Ok.rounds (fun v=>0≤v.1.2.2.2.1∧v.1.2.2.2.1≤most∧(v.2.2.1.2.2.2.1.length:Int)+v.1.2.2.2.1≤most∧(∀t∈v.2.2.1.2.2.2.1,t.Holds.length≤3)∧0≤v.2.2.1.1∧v.2.2.1.1≤1000000) (fun v=>v.1.2.2.2.1.toNat) ?_ ?_ ?_
 ·show r3.2.toNat<18446744073709551616
  omega
 ·simp;omega
 ·rintro ⟨⟨_,_,_,i,_⟩,⟨w,_⟩,⟨len,gap,fails,ts,_⟩,_⟩ kn hi' hk
  simp only at hi'
  obtain⟨a1,a2,a3,a4,a5,a6⟩:=hi'
  have e:bz (i-1)=i-1:=aY (by omega) (by omega)
  refine Ok.ite (fun hlt=> ?_) fun _=> ?_
  ·simp only[decide_eq_true_eq]at hlt
   refine Ok.bind (wm _ a5 a6 (by omega) (by omega)) fun r4 hr4=> ?_
   refine Ok.aW (eY (by simp;omega) (by omega)) (hk _ ?_ ?_)
   ·simp only[e,List.length_append,List.length_singleton]
    refine⟨by omega,by omega,by push_cast;omega,fun t ht=> ?_,a5,a6⟩
    rcases List.mem_append.1 ht with ht|ht
    ·exact a4 t ht
    ·simp only[List.mem_singleton]at ht;subst ht;omega
   ·simp[e];omega
  ·refine Ok.bind (Ll _ (by simp only;omega)) fun r5 hr5=>Ok.some ?_
   simp only at hr5⊢
   rw[hr5]
   exact⟨by omega,a4⟩
theorem vo{nums:List Int}(hn:nums.length≤9223372036854775807):Ok (fun _=>True) (pE nums):=by
 rw[wN]
 refine Ok.rounds (fun v=>0≤v.1.2.1∧v.1.2.1≤nums.length) (fun v=>((nums.length:Int)-v.1.2.1).toNat) ?_ ?_ ?_
 ·show((nums.length:Int)-0).toNat<18446744073709551616
  omega
 ·simp
 ·rintro ⟨⟨_,i,_⟩,⟨w,_⟩,_⟩ kn hi' hk
  simp only at hi'
  refine Ok.ite (fun hlt=> ?_) fun _=>Ok.some trivial
  simp only[decide_eq_true_eq]at hlt
  have e:bz (i+1)=i+1:=aY (by omega) (by omega)
  refine Ok.aW (by simp;omega) (Ok.bind (FD _) fun r _=>hk _ ?_ ?_)
  ·simp[e];omega
  ·simp[e];omega
end Go.Proofs.Plain04
namespace Go.Proofs.YtafnhieaeejlcaaDoor
open Go Go.Ab
set_option linter.all false
def Eg(t:Truck)(len m:Int):Int:=dw t len t.lo (m-t.start).toNat
def Kq(t:Truck)(len m:Int):Int:=dw t len t.hi (m-t.start).toNat
theorem sG{t:Truck}{len:Int}(h:fc len t)(m:Int):atP t len m=⟨Eg t len m,Kq t len m⟩:=by
 by_cases hm:t.start≤m
 ·have s1:=h.s1
  obtain⟨k,rfl⟩:∃k:Nat,m=k:=⟨m.toNat,by omega⟩
  rw[Ea h hm,u9];rfl
 ·unfold atP Eg Kq
  rw[if_pos (by omega),show(m-t.start).toNat=0 by omega];rfl
def J6(t:Truck)(len m g:Int):Prop:=t.start≤m∧Eg t len m≤g∧g≤Kq t len m∧g<bG t.way len m t.holds
theorem oA{t:Truck}{len m:Int}(h:fc len t)(hm:t.start≤m):Kq t len m≤bG t.way len m t.holds:=by
 have:=jj (pace:=t.hi) h.l1 h.ho h.so (by have:=h.p1;have:=h.p2;omega) (m-t.start).toNat
 rw[show t.start+(((m-t.start).toNat:Nat):Int)=m by omega]at this
 exact this
theorem sJ{t:Truck}{len m:Int}(h:fc len t):Eg t len m≤Kq t len m:=l8 h _
theorem ph{t:Truck}{len m:Int}(h:fc len t):0≤Eg t len m∧Eg t len m≤len:=dH h.l1 h.ho h.p1 _
theorem ov{t:Truck}{len m:Int}(h:fc len t):(bX t len m).2=2↔∀g,¬J6 t len m g:=by
 unfold bX
 rw[sG h]
 have hl:=sJ (m:=m) h
 simp only
 split
 ·exact⟨fun _ g hg=>by have:=hg.1;omega,fun _=>rfl⟩
 ·have hs:=oA (m:=m) h (by omega)
  split
  ·exact⟨fun h0=>by simp at h0,fun h0=>absurd ⟨by omega,Int.le_refl _,hl,by omega⟩ (h0 (Eg t len m))⟩
  ·split
   ·exact⟨fun _ g hg=>by have:=hg.2.1;have:=hg.2.2.2;omega,fun _=>rfl⟩
   ·exact⟨fun h0=>by simp at h0,fun h0=>absurd ⟨by omega,Int.le_refl _,hl,by omega⟩ (h0 (Eg t len m))⟩
theorem xu{way len a b p:Int}(hab:a≤b):((gH way len ⟨a,b⟩).lo≤p∧p≤(gH way len ⟨a,b⟩).hi)↔∃g,a≤g∧g≤b∧p=bc way len g:=by
 unfold gH bc
 by_cases e:way=2
 ·simp only[if_pos e]
  exact⟨fun hh=>⟨len-p,by omega,by omega,by omega⟩,fun⟨g,h1,h2,h3⟩=>by omega⟩
 ·simp only[if_neg e]
  exact⟨fun hh=>⟨p,by omega,by omega,rfl⟩,fun⟨g,h1,h2,h3⟩=>by omega⟩
theorem og{t:Truck}{len m p:Int}(h:fc len t)(h2:(bX t len m).2≠2):((bX t len m).1.lo≤p∧p≤(bX t len m).1.hi)↔∃g,J6 t len m g∧p=bc t.way len g:=by
 have hl:=sJ (m:=m) h
 unfold bX at h2⊢
 rw[sG h]at h2⊢
 simp only at h2⊢
 split at h2
 ·exact absurd rfl h2
 ·rename_i a1
  have hs:=oA (m:=m) h (by omega)
  rw[if_neg a1]
  split at h2
  ·rename_i a2
   rw[if_pos a2,xu hl]
   exact⟨fun⟨g,e1,e2,e3⟩=>⟨g,⟨by omega,e1,e2,by omega⟩,e3⟩,fun⟨g,e,e3⟩=>⟨g,e.2.1,e.2.2.1,e3⟩⟩
  ·rename_i a2
   split at h2
   ·exact absurd rfl h2
   ·rename_i a3
    rw[if_neg a2,if_neg a3,xu (by omega)]
    exact⟨fun⟨g,e1,e2,e3⟩=>⟨g,⟨by omega,e1,by omega,by omega⟩,e3⟩,fun⟨g,e,e3⟩=>⟨g,e.2.1,by have:=e.2.2.2;omega,e3⟩⟩
def xP(gap:Int)(t u:Truck)(len m:Int):Prop:=∃g h,J6 t len m g∧J6 u len m h∧bc t.way len g-bc u.way len h<gap∧bc u.way len h-bc t.way len g<gap
theorem vZ{gap len m:Int}{t u:Truck}(ht:fc len t)(hu:fc len u)(hg:1≤gap):(gA gap (bX t len m) (bX u len m)).2.2=true↔xP gap t u len m:=by
 unfold gA
 by_cases h2:(bX t len m).2=2∨(bX u len m).2=2
 ·rw[if_pos h2]
  refine⟨fun h=>by simp at h,fun⟨g,h,a,b,_⟩=> ?_⟩
  rcases h2 with h2|h2
  ·exact absurd a ((ov ht).1 h2 g)
  ·exact absurd b ((ov hu).1 h2 h)
 ·rw[if_neg h2]
  have ht2:(bX t len m).2≠2:=fun h=>h2 (.inl h)
  have hu2:(bX u len m).2≠2:=fun h=>h2 (.inr h)
  simp only[Bool.and_eq_true,decide_eq_true_eq]
  constructor
  ·rintro ⟨a,b⟩
   obtain⟨g,hg1,hg2⟩:=(og ht ht2 (p:=max (bX t len m).1.lo ((bX u len m).1.lo-gap+1))).1 ⟨by omega,a⟩
   obtain⟨h,hh1,hh2⟩:=(og hu hu2 (p:=max (bX u len m).1.lo (max (bX t len m).1.lo ((bX u len m).1.lo-gap+1)-gap+1))).1 ⟨by omega,b⟩
   exact⟨g,h,hg1,hh1,by omega,by omega⟩
  ·rintro ⟨g,h,a,b,d,e⟩
   obtain⟨a1,a2⟩:=(og ht ht2).2 ⟨g,a,rfl⟩
   obtain⟨b1,b2⟩:=(og hu hu2).2 ⟨h,b,rfl⟩
   omega
theorem gY{α:Type}{f:Nat→Option α}:∀n k,fu f n k=none↔∀j,k≤j→j<k+n→f j=none
 |0,k=>by simp only[fu];exact⟨fun _ j a b=>by omega,fun _=>trivial⟩
 |n+1,k=>by
  simp only[fu]
  cases e:f k with
  |some a=>exact⟨fun h=>by simp at h,fun h=>by have:=h k (Nat.le_refl _) (by omega);rw[e]at this;cases this⟩
  |none=>
   rw[show(fu f n (k+1)=none)=_ from propext (gY n (k+1))]
   refine⟨fun h j a b=> ?_,fun h j a b=>h j (by omega) (by omega)⟩
   by_cases ej:j=k
   ·rw[ej,e]
   ·exact h j (by omega) (by omega)
theorem qQ{gap fails:Int}{t u:Truck}{len m:Int}:∀l,gG gap fails t u len m l=none↔∀b∈l,bI b.1+bI b.2≤fails→(ix gap t u len m b).2.2=false
 |[]=>by simp[gG]
 |b::l=>by
  simp only[gG,List.mem_cons,forall_eq_or_imp]
  split
  ·rw[qQ l];exact⟨fun h=>⟨fun h' =>by omega,h⟩,fun h=>h.2⟩
  ·split
   ·rename_i h1 h2
    exact⟨fun h=>by simp at h,fun h=>by have:=h.1 (by omega);rw[h2]at this;cases this⟩
   ·rename_i h1 h2
    rw[qQ l];exact⟨fun h=>⟨fun _=>by simpa using h2,h⟩,fun h=>h.2⟩
theorem GF(b:Bool×Bool):b∈sB:=by obtain⟨a,b⟩:=b;cases a<;>cases b<;>decide
def qa(c:Convoy)(i k:Nat)(b:Bool×Bool)(m:Int):Prop:=xP c.gap (bf (c.trucks.getD i default) b.1) (bf (c.trucks.getD k default) b.2) c.len m
theorem za{c:Convoy}(hc:CR c){i k:Nat}(hi:i<c.trucks.length)(hk:k<c.trucks.length)(m:Int)(b:Bool×Bool):(ix c.gap (c.trucks.getD i default) (c.trucks.getD k default) c.len m b).2.2=true↔qa c i k b m:=
 vZ ((hc.r i hi).free _) ((hc.r k hk).free _) hc.ok.g1
theorem qt{t:Truck}{len p:Int}(h:fc len t)(hp:1≤p):∀k,dw t len p k≤dw (bf t true) len p k
 |0=>Int.le_refl _
 |k+1=>by
  have ih:=qt h hp k
  rw[eT h.l1 h.ho h.so hp k]
  have hf:=h.free true
  have:=eT (t:=bf t true) (len:=len) hf.l1 hf.ho hf.so hp k
  rw[this]
  have e:bG (bf t true).way len ((bf t true).start+k) (bf t true).holds=len:=rfl
  rw[e]
  have:=(fH (m:=t.start+k) h).2
  omega
theorem oh{t:Truck}{len m:Int}(h:fc len t)(b:Bool)(hm:t.start+cn t len t.lo≤m)(g:Int):¬J6 (bf t b) len m g:=by
 rintro ⟨h1,h2,h3,h4⟩
 have e1:=(fa h (Int.le_refl t.lo)).1
 have hf:=h.free b
 have hs:=(fH (m:=m) hf).2
 obtain⟨j,hj⟩:∃j,(m-t.start).toNat=cn t len t.lo+j:=⟨(m-t.start).toNat-cn t len t.lo,by omega⟩
 have e2:=mZ h h.p1 e1 j
 have hb:=(ph (m:=m) hf).2
 have:Eg (bf t b) len m=len:=by
  cases b with
  |false=>show dw t len t.lo (m-t.start).toNat=len;rw[hj];exact e2
  |true=>
   have:=qt h h.p1 (m-t.start).toNat
   rw[hj,e2]at this
   have e:Eg (bf t true) len m=dw (bf t true) len t.lo (cn t len t.lo+j):=by rw[←hj];rfl
   omega
 omega
theorem xk(f:Nat→Int):∀n k,k<n→f k≤dy f n
 |0,k,h=>by omega
 |n+1,k,h=>by
  simp only[dy]
  by_cases e:k=n
  ·subst e;omega
  ·have:=xk f n k (by omega);omega
theorem Hg{c:Convoy}(hc:CR c){i k:Nat}(hi:i<c.trucks.length)(b:Bool×Bool){m:Int}(hm:(eD c:Int)≤m):¬qa c i k b m:=by
 rintro ⟨g,h,h1,_⟩
 refine oh (hc.r i hi) b.1 ?_ g h1
 have a:=xk (fA c) _ i hi
 have e:=sE c i
 have:(eD c:Int)=dy (fA c) c.trucks.length:=by
  have:=(me hc c.trucks.length (Nat.le_refl _)).1
  unfold eD;omega
 omega
theorem zB{c:Convoy}(hc:CR c){m i k:Nat}(hi:i<c.trucks.length)(hk:k<c.trucks.length):ql c m i k=none↔∀b:Bool×Bool,bI b.1+bI b.2≤c.fails→¬qa c i k b m:=by
 unfold ql nI
 rw[Option.map_eq_none_iff,qQ]
 constructor
 ·intro h b hb hn
  have:=h b (GF b) hb
  rw[(za hc hi hk m b).2 hn]at this;cases this
 ·intro h b _ hb
  have:=h b hb
  rw[←za hc hi hk m b]at this
  simpa using this
theorem iK{c:Convoy}(hc:CR c):cg c=none↔∀i k,i<k→k<c.trucks.length→∀b:Bool×Bool,bI b.1+bI b.2≤c.fails→∀m:Int,¬qa c i k b m:=by
 unfold cg
 rw[gY]
 constructor
 ·intro h i k hik hk b hb m hn
  have hm0:0≤m:=by
   obtain⟨g,_,h1,_⟩:=hn
   have:=h1.1
   have s1:=((hc.r i (by omega)).free b.1).s1
   omega
  by_cases hm:(eD c:Int)≤m
  ·exact Hg hc (by omega) b hm hn
  ·have h1:=h m.toNat (Nat.zero_le _) (by omega)
   unfold qd at h1
   have h2:=(gY _ _).1 h1 i (Nat.zero_le _) (by omega)
   unfold qo at h2
   have h3:=(gY _ _).1 h2 k (by omega) (by omega)
   have h4:=(zB hc (by omega) hk).1 h3 b hb
   rw[show((m.toNat:Nat):Int)=m by omega]at h4
   exact h4 hn
 ·intro h m _ _
  unfold qd
  rw[gY]
  intro i _ hi
  unfold qo
  rw[gY]
  intro k hk1 hk2
  exact(zB hc (by omega) (by omega)).2 fun b hb=>h i k (by omega) (by omega) b hb m
end Go.Proofs.YtafnhieaeejlcaaDoor
namespace Go.Proofs.Plain04
open Go
open Go.Ab hiding atP
open Go.Proofs.YtafnhieaeejlcaaDoor (dw iD eF bG cn bc bf bX gD eO de im bL eX gH atP gone fc Bg jw CR ai bD cz fg lK pB jI sG Eg Kq u9 se wo AN sJ ph oA)
set_option linter.all false
theorem MJ(n a b:Int):Qe n a b=some (decide (a≤n∧n≤b)):=by
 rw[Kh];unfold KS
 by_cases h:a≤n
 ·rw[Mh (decide_eq_true h)];simp[h]
 ·rw[Jo (decide_eq_false h)];simp[h]
theorem pH(c:Convoy)(k:Nat):(oC c).trucks.getD k default=oT (c.Trucks.getD k ax):=by
 show(c.Trucks.map oT).getD k (oT ax)=_
 rw[getD_map]
theorem R6{c:Convoy}(h:ai (oC c)=0){k:Nat}(hk:k<c.Trucks.length):fc c.Length (oT (c.Trucks.getD k ax)):=by
 have:=(fg h).r k (by simpa[oC]using hk)
 rw[pH]at this;exact this
theorem OG{c:Convoy}(h:ai (oC c)=0){k:Nat}(hk:k<c.Trucks.length)(b:Bool):fc c.Length (oT (Dk (c.Trucks.getD k ax) b)):=by
 rw[AY];exact(R6 h hk).free b
theorem Sj{c:Convoy}(h:ai (oC c)=0):c.Trucks.length≤20:=by
 have:=(fg h).ok.n;simpa[oC]using this
end Go.Proofs.Plain04
namespace Go.Proofs.Plain04
open Go
open Go.Ab hiding atP
open Go.Proofs.YtafnhieaeejlcaaDoor (dw iD eF bG cn bc bf bX gD eO de im bL eX gH atP gone fc Bg jw CR ai bD cz fg lK Eg Kq se sJ ph oA J6 eT uY dH fH bI)
set_option linter.all false
theorem kA{α:Type}(l:List α)(i j:Nat)(x d:α):(l.set i x).getD j d=if i=j∧j<l.length then x else l.getD j d:=by
 simp only[List.getD_eq_getElem?_getD,List.getElem?_set]
 split
 ·rename_i h;subst h
  split
  ·rename_i h2;simp[h2]
  ·rename_i h2;rw[if_neg (fun h=>h2 h.2),List.getElem?_eq_none (by omega)]
 ·rename_i h;rw[if_neg (fun hh=>h hh.1)]
end Go.Proofs.Plain04
namespace Go.Proofs.Plain04
open Go Go.Ab
open Go.Proofs.YtafnhieaeejlcaaDoor (lK DZ)
set_option linter.all false
theorem yb(s:aK){most:Int}(h0:0≤most)(h1:most≤100):Ok (fun r=>(r.2.Trucks.length:Int)≤most∧∀t∈r.2.Trucks,t.Holds.length≤2) (kt s most):=by
 rw[qf]
 refine Ok.bind (jm s (by omega) (by omega) (by omega) (by omega)) fun r hr=> ?_
 refine Ok.bind (cT _ (by omega)) fun r2 hr2=> ?_
 refine Ok.bind (cT _ (by rw[aY (by omega) (by omega)];omega)) fun r3 hr3=> ?_
 rw[aY (n:=most+1) (by omega) (by omega)]at hr3
 refine Ok.rounds (fun v=>0≤v.1.2.2.2.1∧v.1.2.2.2.1≤most∧(v.2.2.1.2.2.2.1.length:Int)+v.1.2.2.2.1≤most∧(∀t∈v.2.2.1.2.2.2.1,t.Holds.length≤2)∧0≤v.2.2.1.1∧v.2.2.1.1≤1000000) (fun v=>v.1.2.2.2.1.toNat) ?_ ?_ ?_
 ·show r3.2.toNat<18446744073709551616
  omega
 ·simp;omega
 ·rintro ⟨⟨_,_,_,i,_⟩,⟨w,_⟩,⟨len,gap,fails,ts,_⟩,_⟩ kn hi' hk
  simp only at hi'
  obtain⟨a1,a2,a3,a4,a5,a6⟩:=hi'
  have e:bz (i-1)=i-1:=aY (by omega) (by omega)
  refine Ok.ite (fun hlt=> ?_) fun _=>Ok.some ⟨by simp only;omega,a4⟩
  simp only[decide_eq_true_eq]at hlt
  refine Ok.bind (wm _ a5 a6 (by omega) (by omega)) fun r4 hr4=> ?_
  refine Ok.bind (Nc _ (by omega)) fun r5 _=> ?_
  refine Ok.ite (fun _=> ?_) fun _=> ?_
  all_goals
   refine Ok.rounds (fun v=>0≤v.1.2.2.2.2.1∧v.1.2.2.2.2.1≤12∧v.2.2.1.1=len∧v.2.2.1.2.2.2.1=ts∧v.2.2.2.1.2.2.2.2.1.length≤2) (fun v=>(12-v.1.2.2.2.2.1).toNat) ?_ ?_ ?_
   ·show(12-(0:Int)).toNat<18446744073709551616
    omega
   ·simp;try omega
   ·rintro ⟨⟨_,_,_,_,n,_⟩,⟨w2,_⟩,⟨len2,gap2,fails2,ts2,_⟩,⟨way,st,lo,hi,hs,_⟩,_⟩ kn2 hi2 hk2
    simp only at hi2
    obtain⟨b1,b2,rfl,rfl,b5⟩:=hi2
    have e2:bz (n+1)=n+1:=aY (by omega) (by omega)
    refine Ok.ite (fun hc=> ?_) fun hc=>hk _ ?_ ?_
    ·simp only[decide_eq_true_eq]at hc
     refine Ok.bind (cT _ (by rw[e2,aY (by omega) (by omega)];omega)) fun r6 hr6=> ?_
     refine Ok.aW (eY (by simp;omega) (by omega)) (Ok.aW (eY (by simp;omega) (by omega)) ?_)
     rw[tJ]
     refine Ok.bind (Ok.some (P:=fun _=>True) trivial) fun r7 _=> ?_
     refine Ok.ite (fun _=>hk _ ?_ ?_) fun _=>hk2 _ ?_ ?_
     ·simp only[e,List.nil_append,List.length_append,List.length_singleton]
      refine⟨by omega,by omega,by push_cast;omega,fun t ht=> ?_,a5,a6⟩
      rcases List.mem_append.1 ht with ht|ht
      ·exact a4 t ht
      ·simp only[List.mem_singleton]at ht;subst ht;exact b5
     ·simp[e];omega
     ·simp[e2];omega
     ·simp[e2];omega
    ·simp only[e]
     exact⟨by omega,by omega,by omega,a4,a5,a6⟩
    ·simp[e];omega
theorem rE{c:Convoy}(h1:c.Trucks.length≤25)(h2:∀t∈c.Trucks,t.Holds.length≤12):kG c=true:=by
 simp only[kG,Bool.and_eq_true,decide_eq_true_eq,List.all_eq_true]
 exact⟨h1,h2⟩
theorem Er{c:Convoy}(h:kG c=true):rA c=true:=by
 simp only[kG,rA,Bool.and_eq_true,decide_eq_true_eq,List.all_eq_true]at h⊢
 exact⟨by omega,fun t ht=>by have:=h.2 t ht;omega⟩
theorem Kv{c:Convoy}(h:lK (oC c)=false):kG c=true:=by
 obtain⟨h1,h2⟩:=DZ h
 refine rE (by simpa[oC]using h1) fun t ht=> ?_
 obtain⟨k,hk,rfl⟩:=List.mem_iff_getElem.1 ht
 have h3:=h2 k (by simpa[oC]using hk)
 simp only[oC]at h3
 rw[show(default:Go.Proofs.YtafnhieaeejlcaaDoor.Truck)=oT ax from rfl,getD_map,List.getD_eq_getElem?_getD,List.getElem?_eq_getElem hk]at h3
 simpa[oT]using h3
theorem tH(c:Convoy){nums:List Int}(hn:nums.length≤9223372036854775807):kZ c nums=some true:=by
 suffices h:Ok (fun b=>b=true) (kZ c nums) by
  obtain⟨b,h1,h2⟩:=h
  rw[h1,h2]
 rw[nN]
 refine Ok.bind (P:=fun b=>b=lK (oC c)) (by rw[I1];exact Ok.some rfl) fun b hb=> ?_
 refine Ok.ite (fun _=> ?_) fun hf=> ?_
 ·rw[ru];exact Ok.bind (Ok.some (P:=fun b=>b=true) rfl) fun b hb=>Ok.some hb
 subst hb
 have hc:=Kv hf
 refine Ok.bind (vo hn) fun r3 _=> ?_
 refine Ok.bind (Df _ (by omega) (by omega)) fun r4 h4=> ?_
 refine Ok.bind (yb _ (by omega) (by omega)) fun r5 h5=> ?_
 have hc4:kG r4.2=true:=rE (by omega) fun t ht=>by have:=h4.2 t ht;omega
 have hc5:kG r5.2=true:=rE (by omega) fun t ht=>by have:=h5.2 t ht;omega
 have hall:∀x∈([c,r4.2,r5.2]:List Convoy),kG x=true:=fun x hx=>by
  simp only[List.mem_cons,List.not_mem_nil,or_false]at hx
  rcases hx with rfl|rfl|rfl<;>assumption
 refine Ok.rounds (fun v=>0≤v.1.2.1∧v.1.2.1≤3) (fun v=>(3-v.1.2.1).toNat) ?_ ?_ ?_
 ·show(3-(0:Int)).toNat<18446744073709551616
  omega
 ·simp
 ·rintro ⟨⟨_,i,_⟩,_⟩ kn hi hk
  simp only at hi
  refine Ok.ite (fun hlt=> ?_) fun _=> ?_
  ·simp only[decide_eq_true_eq]at hlt
   have hlt' :i.toNat<([c,r4.2,r5.2]:List Convoy).length:=by simp at hlt⊢;omega
   have hx:=hall (([c,r4.2,r5.2]:List Convoy).getD i.toNat gQ) (by rw[List.getD_eq_getElem?_getD,List.getElem?_eq_getElem hlt'];exact List.getElem_mem _)
   generalize hx0:([c,r4.2,r5.2]:List Convoy).getD i.toNat gQ=x at hx
   have e:bz (i+1)=i+1:=aY (by omega) (by omega)
   have hb:(decide (0≤i)&&decide (i<((([c,r4.2,r5.2]:List Convoy).length:Nat):Int)))=true:=by simp only[Bool.and_eq_true,decide_eq_true_eq];exact⟨hi.1,hlt⟩
   refine Ok.aW hb (Ok.aW (by simpa using hlt') ?_)
   refine Ok.bind (P:=fun y=>y=x) (by rw[sL];exact Ok.aW hx (Ok.some rfl)) fun y hy=> ?_
   subst hy
   refine Ok.bind (P:=fun m=>m=ll y) (by rw[tv];exact Ok.some rfl) fun m hm=> ?_
   refine Ok.aW hb (Ok.aW (by simpa using hlt') ?_)
   refine Ok.bind (P:=fun m=>m=ll y) (by rw[tJ];exact Ok.some rfl) fun m2 hm2=> ?_
   subst hm hm2
   refine Ok.ite (fun h=>by simp at h) fun _=>Ok.ite (fun h=>by simp at h) fun _=> ?_
   refine Ok.aW hb (Ok.aW (by simpa using hlt') ?_)
   refine Ok.bind (P:=fun b=>b=true) (by rw[o5];exact Ok.aW (Er hx) (Ok.some (by simp))) fun b hb2=> ?_
   subst hb2
   refine Ok.ite (fun h=>by simp at h) fun _=>hk _ ?_ ?_
   ·simp only[e];simp at hlt;omega
   ·simp only[e];simp at hlt;omega
  ·rw[ru];exact Ok.bind (Ok.some (P:=fun b=>b=true) rfl) fun b hb=>Ok.some hb
def nH(h:Go.Proofs.YtafnhieaeejlcaaDoor.Hold):Hold:=⟨h.a,h.u⟩
def nT(t:Go.Proofs.YtafnhieaeejlcaaDoor.Truck):Truck:=⟨t.way,t.start,⟨t.lo,t.hi⟩,t.holds.map nH⟩
def nC(c:Go.Proofs.YtafnhieaeejlcaaDoor.Convoy):Convoy:=⟨c.len,c.gap,c.fails,c.trucks.map nT⟩
theorem P3(t:Go.Proofs.YtafnhieaeejlcaaDoor.Truck):oT (nT t)=t:=by
 obtain⟨a,b,c,d,hs⟩:=t
 simp only[oT,nT,List.map_map]
 have:hs.map (oH∘nH)=hs:=(List.map_congr_left fun x _=>rfl).trans (List.map_id hs)
 rw[this]
theorem Qn(c:Go.Proofs.YtafnhieaeejlcaaDoor.Convoy):oC (nC c)=c:=by
 obtain⟨a,b,d,ts⟩:=c
 simp only[oC,nC,List.map_map]
 have:ts.map (oT∘nT)=ts:=(List.map_congr_left fun x _=>P3 x).trans (List.map_id ts)
 rw[this]
theorem k4(c:Go.Proofs.YtafnhieaeejlcaaDoor.Convoy){nums:List Int}(hn:nums.length≤9223372036854775807):au Go.Proofs.YtafnhieaeejlcaaDoor.cJ 4 [.agg (Go.Proofs.YtafnhieaeejlcaaDoor.aL c),oo 1 fU nums] (.bool true):=by
 have h:=bW (Z:=Go.Proofs.YtafnhieaeejlcaaDoor.av) (ats:=[.Convoy, .sl (.int .i64)]) (ts:=[.bool]) (E:=E4) (fn:=Tryd.f4) (c:=bb Tryd.f4) Tryd.func4 (by kernel_rfl) (by kernel_rfl) (by kernel_rfl) (by kernel_rfl) rfl ((e4 cS (nC c) nums).trans ((nN (nC c) nums).symm.trans (tH (nC c) hn))) zh zh
 have e:I.ao zh (b6 [.Convoy, .sl (.int .i64)] (nC c,nums,()))=[.agg (Go.Proofs.YtafnhieaeejlcaaDoor.aL c),oo 1 fU nums]:=by
  show[(gy .Convoy (nC c)).bV zh,oo 1 fU nums]=_
  rw[wI,Qn]
 rw[e]at h
 exact h
end Go.Proofs.Plain04
namespace Go.Proofs.Plain04
open Go Go.Ab
open Go.Proofs.YtafnhieaeejlcaaDoor (bc jw ai bD c9 cz eL cg ju)
set_option linter.all false
theorem qc{way len:Int}:∀{hs:List Go.Proofs.YtafnhieaeejlcaaDoor.Hold} {p:Option Int},(∀h∈hs,1≤h.a∧h.a≤len-1∧0≤h.u∧h.u≤10000)→jw way len hs→(∀q,p=some q→∀h∈hs,q<bc way len h.a)→cz way len p hs=0
 |[],_,_,_,_=>rfl
 |h::hs,p,h1,h2,h3=>by
  obtain⟨h4,h5⟩:=List.pairwise_cons.1 h2
  have b:=h1 h (List.mem_cons_self ..)
  have rest:=qc (p:=some (bc way len h.a)) (fun x hx=>h1 x (List.mem_cons_of_mem _ hx)) h5 (fun q hq x hx=>by cases hq;exact h4 x hx)
  rw[eL,if_neg (by omega)]
  cases p with
  |none=>exact rest
  |some q=>
   have:=h3 q rfl h (List.mem_cons_self ..)
   simp only
   rw[if_neg (by omega)];exact rest
structure sb (len:Int) (n:Int) (t:Truck):Prop where
 way:t.Way=1∨t.Way=2
 s1:0≤t.Start
 s2:t.Start≤199
 p1:5≤t.Pace.Lo
 p2:t.Pace.Lo≤t.Pace.Hi
 p3:t.Pace.Hi≤32
 n:(t.Holds.length:Int)≤n
 h:∀h∈t.Holds.map oH,1≤h.a∧h.a≤len-1∧0≤h.u∧h.u≤149
 so:jw t.Way len (t.Holds.map oH)
theorem D5{way len:Int}{hs:List Go.Proofs.YtafnhieaeejlcaaDoor.Hold}{h:Go.Proofs.YtafnhieaeejlcaaDoor.Hold}(h1:jw way len hs)(h2:∀x∈hs,bc way len x.a<bc way len h.a):jw way len (hs++[h]):=by
 refine List.pairwise_append.2 ⟨h1,List.pairwise_singleton _ _,fun a ha b hb=> ?_⟩
 obtain rfl:=List.mem_singleton.1 hb
 exact h2 a ha
theorem rJ(s:aK){length holds:Int}(h1:1≤length)(h2:length≤1000000)(h3:0≤holds)(h4:holds≤100):Ok (fun r=>sb length holds r.2) (j3 s length holds):=by
 rw[qL]
 refine Ok.bind (jm s (by omega) (by omega) (by omega) (by omega)) fun r hr=> ?_
 refine Ok.bind (cT _ (by omega)) fun r2 hr2=> ?_
 refine Ok.bind (cT _ (by omega)) fun r3 hr3=> ?_
 refine Ok.bind (vY _ (by simp) (by simp)) fun r4 hr4=> ?_
 refine Ok.bind (jm _ (by omega) (by omega) (by omega) (by omega)) fun r5 hr5=> ?_
 refine Ok.bind (cT _ (by omega)) fun r6 hr6=> ?_
 refine Ok.bind (vY _ (by simp) (by simp)) fun r7 hr7=> ?_
 refine Ok.bind (cT _ (by rw[aY (by omega) (by omega)];omega)) fun r8 hr8=> ?_
 rw[aY (n:=holds+1) (by omega) (by omega)]at hr8
 have hst:0≤r4.2∧r4.2≤199:=by
  simp only[List.mem_cons,List.not_mem_nil,or_false]at hr4
  omega
 have hph:0≤r7.2∧r7.2≤7:=by
  simp only[List.mem_cons,List.not_mem_nil,or_false]at hr7
  omega
 have eh:bz (r5.2+r7.2)=r5.2+r7.2:=aY (by omega) (by omega)
 refine Ok.rounds (fun v=>0≤v.1.2.2.2.2.1∧v.1.2.2.2.2.1≤holds∧(v.2.2.1.2.2.2.2.1.length:Int)+v.1.2.2.2.2.1≤holds∧0≤v.1.2.2.2.1∧v.1.2.2.2.1≤1000000∧
  sb length (v.2.2.1.2.2.2.2.1.length:Int) ⟨v.2.2.1.1,v.2.2.1.2.1,⟨v.2.2.1.2.2.1,v.2.2.1.2.2.2.1⟩,v.2.2.1.2.2.2.2.1⟩∧∀x∈v.2.2.1.2.2.2.2.1.map oH,bc v.2.2.1.1 length x.a≤v.1.2.2.2.1) (fun v=>v.1.2.2.2.2.1.toNat) ?_ ?_ ?_
 ·show r8.2.toNat<18446744073709551616
  omega
 ·simp only[eh]
  refine⟨by omega,by omega,by simp;omega,by omega,by omega,⟨by simp only;omega,hst.1,hst.2,by simp only;omega,by simp only;omega,by simp only;omega,by simp,fun h hh=>by simp at hh,List.Pairwise.nil⟩,fun x hx=>by simp at hx⟩
 ·rintro ⟨⟨_,_,_,at_,i,_⟩,⟨w,_⟩,⟨way,st,lo,hi,hs,_⟩,_⟩ kn ⟨i1,i2,i3,i4,i5,i6,i7⟩ hk
  simp only at i1 i2 i3 i4 i5 i6 i7⊢
  have i6' :sb length holds ⟨way,st,⟨lo,hi⟩,hs⟩:=⟨i6.way,i6.s1,i6.s2,i6.p1,i6.p2,i6.p3,by show(hs.length:Int)≤holds;omega,i6.h,i6.so⟩
  refine Ok.ite (fun hc=>Ok.ite (fun hc2=> ?_) fun _=>Ok.some i6') fun _=>Ok.some i6'
  simp only[decide_eq_true_eq]at hc hc2
  have e1:bz (at_+1)=at_+1:=aY (by omega) (by omega)
  have e2:bz (length-1)=length-1:=aY (by omega) (by omega)
  rw[e2]at hc2
  refine Ok.bind (jm _ (low:=bz (at_+1)) (high:=bz (length-1)) (by omega) (by omega) (by omega) (by omega)) fun r9 hr9=> ?_
  rw[e1,e2]at hr9
  refine Ok.bind (cT _ (by omega)) fun r10 hr10=> ?_
  have hi1:bz (i-1)=i-1:=aY (by omega) (by omega)
  have hi2:bz (length-r9.2)=length-r9.2:=aY (by omega) (by omega)
  have fin:∀A:Int,1≤A→A≤length-1→bc way length A=r9.2→Ok (fun r=>sb length holds r.2) (kn (((),(),(),r9.2,bz (i-1),()),((r10.1.word,()),(way,st,lo,hi,hs++[⟨A,r10.2⟩],()),()))):=fun A a1 a2 a3=>by
   refine hk _ ?_ ?_
   ·simp only[hi1]
    refine⟨by omega,by omega,by simp;omega,by omega,by omega,⟨i6.way,i6.s1,i6.s2,i6.p1,i6.p2,i6.p3,Int.le_refl _, ?_, ?_⟩, ?_⟩
    ·simp only[List.map_append,List.map_cons,List.map_nil]
     intro h hh
     rcases List.mem_append.1 hh with hh|hh
     ·exact i6.h h hh
     ·obtain rfl:=List.mem_singleton.1 hh
      simp only[oH];omega
    ·simp only[List.map_append,List.map_cons,List.map_nil]
     exact D5 i6.so fun x hx=>by
      have:=i7 x hx
      show bc way length x.a<bc way length (oH ⟨A,r10.2⟩).a
      simp only[oH];omega
    ·simp only[List.map_append,List.map_cons,List.map_nil]
     intro x hx
     rcases List.mem_append.1 hx with hx|hx
     ·have:=i7 x hx;omega
     ·obtain rfl:=List.mem_singleton.1 hx
      simp only[oH];omega
   ·simp only[hi1];omega
  refine Ok.ite (fun hw=> ?_) fun hw=> ?_
  ·refine Ok.aW (eY (by simp;omega) (by omega)) ?_
   rw[hi2]
   refine fin _ (by omega) (by omega) ?_
   have:way=2:=by simpa using hw
   unfold bc;rw[if_pos this];omega
  ·refine Ok.aW (eY (by simp;omega) (by omega)) (fin _ (by omega) (by omega) ?_)
   have:¬way=2:=by simpa using hw
   unfold bc;rw[if_neg this]
structure ME (most:Int) (c:Convoy):Prop where
 l1:20≤c.Length
 l2:c.Length≤400
 g1:1≤c.Gap
 g2:c.Gap≤100
 f1:0≤c.Fails
 f2:c.Fails≤2
 n:(c.Trucks.length:Int)≤most
 t:∀t∈c.Trucks,sb c.Length 3 t
 g:∀t∈c.Trucks,2*t.Pace.Hi≤c.Gap
abbrev QV:=Go.Proofs.YtafnhieaeejlcaaDoor.Convoy
theorem xU{c:QV}{t:Ml}(w1:1≤t.way)(w2:t.way≤2)(s1:0≤t.start)(s2:t.start≤10000)(p1:1≤t.lo)(p2:t.lo≤t.hi)(p3:t.hi≤1000)(d:c.len≤1000*t.lo)(g:2*t.hi≤c.gap)(n:t.holds.length≤8)
 (h:cz t.way c.len none t.holds=0):bD c t=0:=by
 unfold bD
 rw[if_neg (by omega),if_neg (by omega),if_neg (by omega),if_neg (by omega),if_neg (by omega),if_neg (by omega)];exact h
theorem HD{c:Convoy}{t:Truck}{n:Int}(h:sb c.Length n t)(hn:n≤8)(l2:c.Length≤1000)(g:2*t.Pace.Hi≤c.Gap):bD (oC c) (oT t)=0:=by
 obtain⟨w,s1,s2,p1,p2,p3,n1,h1,so⟩:=h
 refine xU ?_ ?_ s1 ?_ ?_ p2 ?_ ?_ g ?_ (qc (fun x hx=> ?_) so (fun q hq=>by cases hq))
 ·show 1≤t.Way;omega
 ·show t.Way≤2;omega
 ·show t.Start≤10000;omega
 ·show 1≤t.Pace.Lo;omega
 ·show t.Pace.Hi≤1000;omega
 ·show c.Length≤1000*t.Pace.Lo;omega
 ·show(t.Holds.map oH).length≤8;rw[List.length_map];omega
 ·have:=h1 x hx
  show 1≤x.a∧x.a≤c.Length-1∧0≤x.u∧x.u≤10000
  omega
theorem oy{c:Go.Proofs.YtafnhieaeejlcaaDoor.Convoy}:∀{ts:List Ml},(∀t∈ts,bD c t=0)→c9 c ts=0
 |[],_=>rfl
 |t::ts,h=>by
  have a:=h t (List.mem_cons_self ..)
  unfold c9
  rw[if_neg (fun hh=>hh a)]
  exact oy fun x hx=>h x (List.mem_cons_of_mem _ hx)
theorem ot{c:QV}(l1:1≤c.len)(l2:c.len≤100000)(g1:1≤c.gap)(g2:c.gap≤100000)(f1:0≤c.fails)(f2:c.fails≤20)(n:c.trucks.length≤20)(h:∀t∈c.trucks,bD c t=0):ai c=0:=by
 unfold ai
 rw[if_neg (by omega),if_neg (by omega)]
 exact oy h
theorem rN{way len:Int}:∀{hs:List Go.Proofs.YtafnhieaeejlcaaDoor.Hold} {p:Option Int},cz way len p hs≠7
 |[],_=>by unfold cz;omega
 |h::hs,p=>by
  have ih:=rN (way:=way) (len:=len) (hs:=hs) (p:=some (bc way len h.a))
  rw[eL]
  split
  ·omega
  ·split
   ·split
    ·omega
    ·exact ih
   ·exact ih
theorem Au(c:Go.Proofs.YtafnhieaeejlcaaDoor.Convoy)(t:Ml):bD c t≠7:=by
 unfold bD
 split;·omega
 split;·omega
 split;·omega
 split;·omega
 split;·omega
 split;·omega
 exact rN
theorem qm(c:Go.Proofs.YtafnhieaeejlcaaDoor.Convoy):∀ts:List Ml,c9 c ts≠7
 |[]=>by unfold c9;omega
 |t::ts=>by
  unfold c9
  split
  ·exact Au c t
  ·exact qm c ts
theorem Ku(c:Go.Proofs.YtafnhieaeejlcaaDoor.Convoy):ai c≠7:=by
 unfold ai
 split;·omega
 split;·omega
 exact qm c _
def Acc(c:Convoy):Prop:=ai (oC c)=0∧cg (oC c)=none
theorem Ck{c:Convoy}(h:(ll c).2=7):Acc c:=by
 unfold ll at h
 simp only at h
 by_cases h0:ai (oC c)=0
 ·refine⟨h0, ?_⟩
  rw[if_pos h0]at h
  cases hm:cg (oC c)with
  |none=>rfl
  |some x=>rw[hm]at h;simp at h
 ·rw[if_neg h0]at h
  exact absurd h (Ku _)
end Go.Proofs.Plain04
namespace Go.Proofs.Plain04
open Go
open Go.Ab hiding atP
open Go.Proofs.YtafnhieaeejlcaaDoor (dw iD eF bG cn bc bf bX gD eO gH atP gone fc CR ai fg Eg Kq se sJ ph oA J6 bI ov og xu sG cg)
set_option linter.all false
end Go.Proofs.Plain04
namespace Go.Proofs.Plain04
open Go Go.Ab
open Go.Proofs.YtafnhieaeejlcaaDoor (bc gD fc CR ai fg Eg Kq ph J6 bI cg iK qa xP bD dy eD)
set_option linter.all false
theorem Hj{c:Convoy}(h:Acc c):(ll c).2=7:=by
 unfold ll
 simp only[if_pos h.1,h.2];rfl
end Go.Proofs.Plain04
namespace Go.Proofs.Plain04
open Go Go.Ab
open Go.Proofs.YtafnhieaeejlcaaDoor (av)
set_option linter.all false
set_option maxRecDepth 100000
noncomputable section
end
end Go.Proofs.Plain04
namespace Go.Proofs.Plain04
open Go Go.Ab
open Go.Proofs.YtafnhieaeejlcaaDoor (cn bc bf bX fc CR ai bD c9 fx fg bI J6 cg iK qa xP vZ gA jc oh ov xS lK O4)
set_option linter.all false
theorem sf{c:Convoy}{t u:Truck}(ht:fc c.Length (oT t))(hu:fc c.Length (oT u)){gap fails m:Int}(g0:0≤gap)(g1:gap≤1000000)(m0: -1000000≤m)(m1:m≤1000000):
 uB ⟨gap,fails⟩ (x9 ⟨t,c.Length⟩) (x9 ⟨u,c.Length⟩) m=some (gA gap (bX (oT t) c.Length m) (bX (oT u) c.Length m)):=by
 rw[Da];apply ok_eq
 have l2:=ht.l2
 have b1:=jc (m:=m) ht
 have b2:=jc (m:=m) hu
 refine Ok.beq (sr (r:=⟨t,c.Length⟩) ht m0 m1) (Ok.beq (sr (r:=⟨u,c.Length⟩) hu m0 m1) ?_)
 simp only
 unfold gA
 generalize bX (oT t) c.Length m=x at*
 generalize bX (oT u) c.Length m=y at*
 by_cases h1:x.2=2
 ·rw[if_pos (.inl h1)];exact Ok.yes (by simp[h1]) (Ok.some rfl)
 by_cases h2:y.2=2
 ·rw[if_pos (.inr h2)];exact Ok.no (by simp[h1]) (Ok.yes (by simp[h2]) (Ok.some rfl))
 rw[if_neg (fun hh=>hh.elim h1 h2)]
 refine Ok.no (by simp[h1]) (Ok.no (by simp[h2]) ?_)
 simp only[nS]
 have e1:bz (y.1.lo-gap)=y.1.lo-gap:=aY (by omega) (by omega)
 have e2:bz (y.1.lo-gap+1)=y.1.lo-gap+1:=aY (by omega) (by omega)
 simp only[e1,e2]
 have e3:bz (max x.1.lo (y.1.lo-gap+1)-gap)=max x.1.lo (y.1.lo-gap+1)-gap:=aY (by omega) (by omega)
 have e4:bz (max x.1.lo (y.1.lo-gap+1)-gap+1)=max x.1.lo (y.1.lo-gap+1)-gap+1:=aY (by omega) (by omega)
 simp only[e3,e4]
 by_cases h3:max x.1.lo (y.1.lo-gap+1)≤x.1.hi
 ·exact Ok.yes (decide_eq_true h3) (Ok.some (by simp[h3]))
 ·exact Ok.no (decide_eq_false h3) (Ok.some (by simp[h3]))
def mG(k:Nat):Bool×Bool:=if k=0 then(false,false)else if k=1 then(true,false)else if k=2 then(false,true)else(true,true)
theorem Hl(b:Bool×Bool):∃k,k<4∧mG k=b:=by
 obtain⟨x,y⟩:=b
 cases x<;>cases y
 ·exact⟨0,by omega,rfl⟩
 ·exact⟨2,by omega,rfl⟩
 ·exact⟨1,by omega,rfl⟩
 ·exact⟨3,by omega,rfl⟩
def zE(gap fails:Int)(t u:Ml)(len m:Int):Prop:=∃b:Bool×Bool,bI b.1+bI b.2≤fails∧xP gap (bf t b.1) (bf u b.2) len m
theorem DU{c:Convoy}{t u:Truck}(ht:fc c.Length (oT t))(hu:fc c.Length (oT u)){gap fails m:Int}(g0:1≤gap)(g1:gap≤1000000)(m0: -1000000≤m)(m1:m≤1000000):
 Ok (fun r=>r.2=true↔zE gap fails (oT t) (oT u) c.Length m) (rK ⟨gap,fails⟩ (lO c t) (lO c u) m):=by
 rw[wJ]
 have hR:∀{x:Truck},fc c.Length (oT x)→∀b,fc c.Length (oT (Dk x b)):=fun h b=>by rw[AY];exact h.free b
 have near:∀b:Bool×Bool,(gA gap (bX (oT (Dk t b.1)) c.Length m) (bX (oT (Dk u b.2)) c.Length m)).2.2=true↔xP gap (bf (oT t) b.1) (bf (oT u) b.2) c.Length m:=fun b=>by
  rw[vZ (hR ht b.1) (hR hu b.2) g0,AY,AY]
 refine Ok.rounds (fun v=>∃k:Nat,k≤4∧v.1.2.2.2.2.1=(k:Int)∧∀j,j<k→¬(bI (mG j).1+bI (mG j).2≤fails∧xP gap (bf (oT t) (mG j).1) (bf (oT u) (mG j).2) c.Length m)) (fun v=>(4-v.1.2.2.2.2.1).toNat) ?_ ?_ ?_
 ·show(4-(0:Int)).toNat<18446744073709551616
  omega
 ·exact⟨0,by omega,rfl,fun j hj=>absurd hj (Nat.not_lt_zero _)⟩
 rintro ⟨⟨_,_,_,_,i,_⟩,⟨a1,a2,a3,a4,a5,a6,a7,_⟩,_⟩ kn ⟨k,k1,k2,k3⟩ hk
 simp only at k2⊢
 subst k2
 have ek:bz ((k:Int)+1)=((k+1:Nat):Int):=by rw[aY (by omega) (by omega)];push_cast;rfl
 have nxt:k<4→¬(bI (mG k).1+bI (mG k).2≤fails∧xP gap (bf (oT t) (mG k).1) (bf (oT u) (mG k).2) c.Length m)→Ok (fun r:bj×Bool=>r.2=true↔zE gap fails (oT t) (oT u) c.Length m) (kn (((),(),(),(),bz ((k:Int)+1),()),((a1,a2,a3,a4,a5,a6,a7,()),()))):=fun hk4 hno=>
  hk _ ⟨k+1,by omega,ek,fun j hj=>by
   by_cases e:j=k
   ·rw[e];exact hno
   ·exact k3 j (by omega)⟩ (by simp only[ek];omega)
 have Bf:∀b:Bool×Bool,bI b.1+bI b.2≤fails→(gA gap (bX (oT (Dk t b.1)) c.Length m) (bX (oT (Dk u b.2)) c.Length m)).2.2=true→∀x:bj,Ok (fun r:bj×Bool=>r.2=true↔zE gap fails (oT t) (oT u) c.Length m) (some (x,true)):=fun b h1 h2 x=>
  Ok.some ⟨fun _=>⟨b,h1,(near b).1 h2⟩,fun _=>rfl⟩
 refine Ok.ite (fun hlt=> ?_) fun hge=>Ok.some ?_
 ·have hlt:k<4:=by have:=of_decide_eq_true hlt;omega
  obtain rfl|rfl|rfl|rfl:k=0∨k=1∨k=2∨k=3:=by omega
  ·refine Ok.yes rfl ?_
   rw[aY (n:=0+0) (by omega) (by omega)]
   refine Ok.ite (fun h=>nxt (by omega) fun hh=>by have h' :_>fails:=of_decide_eq_true h;have:=hh.1;simp[mG,bI]at this;omega) fun h=> ?_
   refine Ok.beq (sf (hR ht false) (hR hu false) (by omega) g1 m0 m1) (Ok.ite (fun h2=>Bf (false,false) (by have h' :¬_>fails:=of_decide_eq_false h;simp[bI];omega) h2 _) fun h2=>nxt (by omega) fun hh=> ?_)
   have:=(near (false,false)).2 hh.2
   rw[this]at h2;cases h2
  ·refine Ok.no rfl (Ok.yes rfl ?_)
   rw[aY (n:=1+0) (by omega) (by omega)]
   refine Ok.ite (fun h=>nxt (by omega) fun hh=>by have h' :_>fails:=of_decide_eq_true h;have:=hh.1;simp[mG,bI]at this;omega) fun h=> ?_
   refine Ok.beq (sf (hR ht true) (hR hu false) (by omega) g1 m0 m1) (Ok.ite (fun h2=>Bf (true,false) (by have h' :¬_>fails:=of_decide_eq_false h;simp[bI];omega) h2 _) fun h2=>nxt (by omega) fun hh=> ?_)
   have:=(near (true,false)).2 hh.2
   rw[this]at h2;cases h2
  ·refine Ok.no rfl (Ok.no rfl (Ok.yes rfl ?_))
   rw[aY (n:=0+1) (by omega) (by omega)]
   refine Ok.ite (fun h=>nxt (by omega) fun hh=>by have h' :_>fails:=of_decide_eq_true h;have:=hh.1;simp[mG,bI]at this;omega) fun h=> ?_
   refine Ok.beq (sf (hR ht false) (hR hu true) (by omega) g1 m0 m1) (Ok.ite (fun h2=>Bf (false,true) (by have h' :¬_>fails:=of_decide_eq_false h;simp[bI];omega) h2 _) fun h2=>nxt (by omega) fun hh=> ?_)
   have:=(near (false,true)).2 hh.2
   rw[this]at h2;cases h2
  ·refine Ok.no rfl (Ok.no rfl (Ok.no rfl (Ok.yes rfl ?_)))
   rw[aY (n:=1+1) (by omega) (by omega)]
   refine Ok.ite (fun h=>nxt (by omega) fun hh=>by have h' :_>fails:=of_decide_eq_true h;have:=hh.1;simp[mG,bI]at this;omega) fun h=> ?_
   refine Ok.beq (sf (hR ht true) (hR hu true) (by omega) g1 m0 m1) (Ok.ite (fun h2=>Bf (true,true) (by have h' :¬_>fails:=of_decide_eq_false h;simp[bI];omega) h2 _) fun h2=>nxt (by omega) fun hh=> ?_)
   have:=(near (true,true)).2 hh.2
   rw[this]at h2;cases h2
 ·have hge:¬k<4:=by have:=of_decide_eq_false hge;omega
  refine⟨fun h=>(by cases h),fun⟨b,h1,h2⟩=> ?_⟩
  obtain⟨j,hj,rfl⟩:=Hl b
  exact absurd ⟨h1,h2⟩ (k3 j (by omega))
def z0(gap fails:Int)(t u:Ml)(len:Int):Prop:=∀m,¬zE gap fails t u len m
theorem uk(t:Ml)(b:Bool):(bf t b).start=t.start:=by cases b<;>rfl
theorem tW{gap fails len m:Int}{t u:Ml}(ht:fc len t)(hu:fc len u)(h:zE gap fails t u len m):t.start≤m∧u.start≤m∧m<t.start+cn t len t.lo∧m<u.start+cn u len u.lo:=by
 obtain⟨b,_,g,g',h1,h2,_⟩:=h
 have a1:t.start≤m:=by have:=h1.1;rw[uk]at this;exact this
 have a2:u.start≤m:=by have:=h2.1;rw[uk]at this;exact this
 refine⟨a1,a2, ?_, ?_⟩
 ·exact Classical.byContradiction fun hn=>oh ht b.1 (by omega) g h1
 ·exact Classical.byContradiction fun hn=>oh hu b.2 (by omega) g' h2
theorem J5{c:Convoy}{t u:Truck}(ht:fc c.Length (oT t))(hu:fc c.Length (oT u)){gap fails:Int}(g0:1≤gap)(g1:gap≤1000000):
 Ok (fun b=>b=true↔z0 gap fails (oT t) (oT u) c.Length) (apart ⟨gap,fails⟩ (lO c t) (lO c u)):=by
 rw[Bv]
 have s1:0≤t.Start:=ht.s1
 have s2:t.Start≤10000:=ht.s2
 have s3:0≤u.Start:=hu.s1
 have s4:u.Start≤10000:=hu.s2
 have k1:=sd (r:=⟨t,c.Length⟩) ht
 have k2:=sd (r:=⟨u,c.Length⟩) hu
 simp only at k1 k2
 have ef:∀x:Truck,Dk x false=x:=fun _=>rfl
 refine Ok.rounds (fun v=>max t.Start u.Start≤v.1.2.2.1∧v.1.2.2.1≤100000∧∀m,m<v.1.2.2.1→¬zE gap fails (oT t) (oT u) c.Length m) (fun v=>(100000-v.1.2.2.1).toNat) ?_ ?_ ?_
 ·show(100000-max t.Start u.Start).toNat<18446744073709551616
  omega
 ·refine⟨Int.le_refl _,by show max t.Start u.Start≤100000;omega,fun m hm hn=> ?_⟩
  obtain⟨a1,a2,_⟩:=tW ht hu hn
  change m<max t.Start u.Start at hm
  change t.Start≤m at a1
  change u.Start≤m at a2
  omega
 rintro ⟨⟨_,_,m,_⟩,_⟩ kn ⟨i1,i2,i3⟩ hk
 simp only at i1 i2 i3⊢
 refine Ok.beq (om (r:=⟨t,c.Length⟩) ht) (Ok.beq (om (r:=⟨u,c.Length⟩) hu) (Ok.ite (fun hlt=> ?_) fun hge=>Ok.some ?_))
 ·have hlt:m≤min (t.Start+(jD t c.Length:Int)) (u.Start+(jD u c.Length:Int)):=of_decide_eq_true hlt
  have em:bz (m+1)=m+1:=aY (by omega) (by omega)
  refine Ok.bind (DU ht hu (fails:=fails) g0 g1 (by omega) (by omega)) fun r3 h3=>Ok.ite (fun h=>Ok.some ?_) fun h=>hk _ ?_ ?_
  ·exact⟨fun hh=>(by cases hh),fun hh=>absurd (h3.1 h) (hh m)⟩
  ·simp only[em]
   refine⟨by omega,by omega,fun m' hm' => ?_⟩
   by_cases e:m' =m
   ·rw[e];intro hn;rw[h3.2 hn]at h;cases h
   ·exact i3 m' (by omega)
  ·simp only[em];omega
 ·have hge:¬m≤min (t.Start+(jD t c.Length:Int)) (u.Start+(jD u c.Length:Int)):=of_decide_eq_false hge
  refine⟨fun _ m' hn=> ?_,fun _=>rfl⟩
  obtain⟨_,_,a3,a4⟩:=tW ht hu hn
  change m' <t.Start+(jD t c.Length:Int)at a3
  change m' <u.Start+(jD u c.Length:Int)at a4
  exact i3 m' (by omega) hn
theorem EG{c:Convoy}(h:ai (oC c)=0):rF c=some ((List.range c.Trucks.length).map fun i=>lO c (c.Trucks.getD i ax)):=by
 rw[wK];apply ok_eq
 have hf:=Sj h
 refine Ok.rounds (fun v=>∃k:Nat,k≤c.Trucks.length∧v.1.2.2.1=(k:Int)∧v.1.2.1=(List.range k).map fun i=>lO c (c.Trucks.getD i ax)) (fun v=>((c.Trucks.length:Int)-v.1.2.2.1).toNat) ?_ ?_ ?_
 ·show((c.Trucks.length:Int)-0).toNat<18446744073709551616
  omega
 ·exact⟨0,Nat.zero_le _,rfl,rfl⟩
 rintro ⟨⟨_,out,i,_⟩,_⟩ kn ⟨k,k1,k2,k3⟩ hk
 simp only at k2 k3⊢
 subst k2 k3
 have ek:bz ((k:Int)+1)=((k+1:Nat):Int):=by rw[aY (by omega) (by omega)];push_cast;rfl
 refine Ok.ite (fun hlt=> ?_) fun hge=>Ok.some ?_
 ·have hlt:k<c.Trucks.length:=by have:=of_decide_eq_true hlt;omega
  refine Ok.beq (zJ hlt false) (Ok.beq (vg (r:=⟨Dk (c.Trucks.getD k ax) false,c.Length⟩) (OG h hlt false)) (Ok.beq (zJ hlt true) (Ok.beq (vg (r:=⟨Dk (c.Trucks.getD k ax) true,c.Length⟩) (OG h hlt true)) (Ok.aW (eY (by simp;omega) (by omega)) (hk _ ⟨k+1,by omega,ek, ?_⟩ (by simp only[ek];omega))))))
  exact nn (fun i=>lO c (c.Trucks.getD i ax)) k
 ·have hge:k=c.Trucks.length:=by have:=of_decide_eq_false hge;omega
  rw[hge]
theorem C9{c:QV}(h:ai c=0):c9 c c.trucks=0:=by
 unfold ai at h
 split at h;·cases h
 split at h;·cases h
 exact h
end Go.Proofs.Plain04
namespace Go.Proofs.Plain04
open Go Go.Ab
open Go.Proofs.YtafnhieaeejlcaaDoor (av)
set_option linter.all false
set_option maxRecDepth 100000
noncomputable section
def xO(i:Int)(c_Length:Int)(c_Gap:Int)(c_Fails:Int)(c_Trucks:List Truck)(kn_:Int→Int→Int→Int→(List Truck)→Option Convoy):Option Convoy:=
 bif (decide (i<(c_Trucks.length:Int)))then
 aW (decide (0≤i)&&decide (i<(c_Trucks.length:Int)))<|
 aW (decide (i.toNat<c_Trucks.length))<|
 aW (gU (([]:List Hold).length+((c_Trucks.getD i.toNat ax).Holds).length) 16)<|
 aW (decide (0≤i)&&decide (i<(c_Trucks.length:Int)))<|
 aW (decide (i.toNat<c_Trucks.length))<|
 aW (decide (i.toNat<c_Trucks.length))<|
 kn_ (bz (i+1)) c_Length c_Gap c_Fails (c_Trucks.set i.toNat (⟨(c_Trucks.getD i.toNat ax).Way,(c_Trucks.getD i.toNat ax).Start,(c_Trucks.getD i.toNat ax).Pace,(([]:List Hold)++(c_Trucks.getD i.toNat ax).Holds)⟩:Truck))
 else
 some (⟨c_Length,c_Gap,c_Fails,c_Trucks⟩:Convoy)
def ob(it:It Convoy)(c:Convoy):Option Convoy:=
 aW (gU (([]:List Truck).length+c.Trucks.length) 56)<|
 it _ (fun(v_0:(Unit×Unit×Int×Unit)×((Int×Int×Int×(List Truck)×Unit)×Unit)) kn=>xO v_0.1.2.2.1 v_0.2.1.1 v_0.2.1.2.1 v_0.2.1.2.2.1 v_0.2.1.2.2.2.1 (fun y0 y1 y2 y3 y4=>kn (((),(),y0,()),((y1,y2,y3,y4,()),())))) (((),(),0,()),((c.Length,c.Gap,c.Fails,(([]:List Truck)++c.Trucks),()),()))
def kO:Convoy→Option Convoy:=iR (fun c=>ob cS c)
theorem pX(c:Convoy):kO c=ob cS c:=by unfold kO;rw[cd]
def Sw:dC av:=⟨⟨30,[],[],[],[],[],[],[],[],[],[],[],[],true⟩,[(3,⟨⟨[(1, .bx 1 0),(2, .bx 2 0),(3, .v (.int .i64))],[(1,[.v (.int .i64), .v (.int .i64), .v (.int .i64), .os 4 50 .Truck])]⟩,[],[2],[]⟩)]⟩
theorem TA(it:It Convoy)(c:Convoy):Af .Convoy 3 50 .Truck it Sw (bb Tryd.f20) Tryd.f20.results.toList (b6 [.Convoy] (c,()))=ob it c:=by kernel_rfl
def Q7:jZ av.toSeat:=Ao av.toSeat 20 [.Convoy] .Convoy 3 50 .Truck (fun a=>kO a.1) (fun a x hx l d hd h=>nj (Z:=av) (ats:=[.Convoy]) (E:=Sw) (fn:=Tryd.f20) (c:=bb Tryd.f20) Tryd.func20 (by kernel_rfl) (by kernel_rfl) (by kernel_rfl) (by kernel_rfl) rfl ((TA cS a.1).trans ((pX a.1).symm.trans hx)) hd h)
end
end Go.Proofs.Plain04
namespace Go.Proofs.Plain04
open Go Go.Ab
open Go.Proofs.YtafnhieaeejlcaaDoor (ai bD fg bI)
set_option linter.all false
theorem I9{l:List Truck}{i:Nat}(hi:i<l.length):l.set i (⟨(l.getD i ax).Way,(l.getD i ax).Start,(l.getD i ax).Pace,([]:List Hold)++(l.getD i ax).Holds⟩:Truck)=l:=by
 have e:(⟨(l.getD i ax).Way,(l.getD i ax).Start,(l.getD i ax).Pace,([]:List Hold)++(l.getD i ax).Holds⟩:Truck)=l.getD i ax:=rfl
 rw[e,List.getD_eq_getElem?_getD,List.getElem?_eq_getElem hi]
 simp
theorem yf{c:Convoy}(h:kG c=true):kO c=some c:=by
 rw[pX];apply ok_eq
 simp only[kG,Bool.and_eq_true,decide_eq_true_eq,List.all_eq_true]at h
 obtain⟨h1,h2⟩:=h
 refine Ok.aW (eY (by simp;omega) (by omega)) ?_
 refine Ok.rounds (fun v=>0≤v.1.2.2.1∧v.1.2.2.1≤c.Trucks.length∧v.2.1.1=c.Length∧v.2.1.2.1=c.Gap∧v.2.1.2.2.1=c.Fails∧v.2.1.2.2.2.1=c.Trucks) (fun v=>((c.Trucks.length:Int)-v.1.2.2.1).toNat) ?_ ?_ ?_
 ·show((c.Trucks.length:Int)-0).toNat<18446744073709551616
  omega
 ·exact⟨Int.le_refl _,by show(0:Int)≤_;omega,rfl,rfl,rfl,rfl⟩
 rintro ⟨⟨_,_,i,_⟩,⟨a1,a2,a3,a4,_⟩,_⟩ kn ⟨i1,i2,i3,i4,i5,i6⟩ hk
 simp only at i1 i2 i3 i4 i5 i6⊢
 subst i3 i4 i5 i6
 have e:bz (i+1)=i+1:=aY (by omega) (by omega)
 refine Ok.ite (fun hlt=> ?_) fun _=>Ok.some rfl
 have hlt:=of_decide_eq_true hlt
 have hi:i.toNat<c.Trucks.length:=by omega
 have hh:=h2 _ (oI (d:=ax) hi)
 have b1:=ib i1 hlt
 have b2:decide (i.toNat<c.Trucks.length)=true:=decide_eq_true hi
 refine Ok.aW b1 (Ok.aW b2 (Ok.aW (eY (n:=0+(c.Trucks.getD i.toNat ax).Holds.length) (by omega) (by omega)) (Ok.aW b1 (Ok.aW b2 (Ok.aW b2 (hk _ ?_ ?_))))))
 ·simp only[e]
  exact⟨by omega,by omega,trivial,trivial,trivial,I9 hi⟩
 ·simp only[e];omega
end Go.Proofs.Plain04
