/- Walks by computing: what each function of the program that the laws reach gives for what it gets, as plain Lean, and that it is so; without a condition but those that stand in each theorem. -/
import Derived.Test.YtafnhieaeejlcaaDoorW1
import Derived.Test.YtafnhieaeejlcaaDoorW2
import Derived.Test.YtafnhieaeejlcaaDoorW3
import Derived.Test.YtafnhieaeejlcaaDoorW4
import Derived.Test.YtafnhieaeejlcaaDoorW5
import Derived.Test.YtafnhieaeejlcaaDoorW6
import Derived.Test.YtafnhieaeejlcaaDoorW7
import Derived.Test.YtafnhieaeejlcaaDoorW8
import Derived.Test.YtafnhieaeejlcaaDoorW9
import Derived.Test.YtafnhieaeejlcaaDoorW10
import Derived.Test.YtafnhieaeejlcaaDoorW11
set_option linter.all false
namespace Go.Proofs.Plain04
open Go Go.Ab
open Go.Proofs.YtafnhieaeejlcaaDoor (av cJ ai cg xS lK QO NB PK QP O7 RN)
set_option linter.all false
set_option maxRecDepth 100000
noncomputable section
def oH(h:Hold):Go.Proofs.YtafnhieaeejlcaaDoor.Hold:=⟨h.At,h.Until⟩
def oT(t:Truck):Go.Proofs.YtafnhieaeejlcaaDoor.Truck:=⟨t.Way,t.Start,t.Pace.Lo,t.Pace.Hi,t.Holds.map oH⟩
def oC(c:Convoy):Go.Proofs.YtafnhieaeejlcaaDoor.Convoy:=⟨c.Length,c.Gap,c.Fails,c.Trucks.map oT⟩
def nM(m:Go.Proofs.YtafnhieaeejlcaaDoor.bj):bj:=⟨m.m,m.i,m.k,m.fi,m.fk,m.p,m.q⟩
theorem getD_map{α β:Type}(f:α→β)(l:List α)(i:Nat)(d:α):(l.map f).getD i (f d)=f (l.getD i d):=by
 simp only[List.getD_eq_getElem?_getD,List.getElem?_map]
 cases l[i]? <;>rfl
theorem Dr(t:Truck):Go.Proofs.YtafnhieaeejlcaaDoor.bA (oT t)=kf t:=by
 unfold Go.Proofs.YtafnhieaeejlcaaDoor.bA kf oo oT
 simp only[List.length_map]
 have:(fun i=>Go.Proofs.YtafnhieaeejlcaaDoor.fY ((t.Holds.map oH).getD i default))=fun i=>jt (t.Holds.getD i dv):=by
  funext i
  rw[show(default:Go.Proofs.YtafnhieaeejlcaaDoor.Hold)=oH dv from rfl,getD_map]
  rfl
 rw[this]
theorem CF(c:Convoy):Go.Proofs.YtafnhieaeejlcaaDoor.aL (oC c)=mP c:=by
 unfold Go.Proofs.YtafnhieaeejlcaaDoor.aL mP oo oC
 simp only[List.length_map]
 have:(fun i=>Go.Proofs.YtafnhieaeejlcaaDoor.bA ((c.Trucks.map oT).getD i default))=fun i=>kf (c.Trucks.getD i ax):=by
  funext i
  rw[show(default:Go.Proofs.YtafnhieaeejlcaaDoor.Truck)=oT ax from rfl,getD_map,Dr]
 rw[this]
theorem wI(c:Convoy)(h:Nat→Nat):(gy .Convoy c).bV h= .agg (Go.Proofs.YtafnhieaeejlcaaDoor.aL (oC c)):=by
 rw[CF]
 show D.agg (I.ao h (bO .Convoy c))=_
 rw[aT];rfl
def ll(c:Convoy):bj×Int:=(nM (if ai (oC c)=0 then xS (cg (oC c))else default),if ai (oC c)=0 then(if(cg (oC c)).isSome then 0 else 7)else ai (oC c))
theorem Qf(c:Convoy)(h:Nat→Nat):(nG [.bj, .int .i64] (ll c)).bV h= .tup [.agg (Go.Proofs.YtafnhieaeejlcaaDoor.cI (if ai (oC c)=0 then xS (cg (oC c))else default)), .int .i64 (if ai (oC c)=0 then(if(cg (oC c)).isSome then 0 else 7)else ai (oC c))]:=rfl
def kG(c:Convoy):Bool:=decide (c.Trucks.length≤25)&&c.Trucks.all fun t=>decide (t.Holds.length≤12)
theorem yN{c:Convoy}{n:Nat}(h:(c.Trucks.all fun t=>decide (t.Holds.length≤n))=true):∀k,k<(oC c).trucks.length→((oC c).trucks.getD k default).holds.length≤n:=fun k hk=>by
 simp only[oC,List.length_map]at hk⊢
 rw[show(default:Go.Proofs.YtafnhieaeejlcaaDoor.Truck)=oT ax from rfl,getD_map]
 have hm:c.Trucks.getD k ax∈c.Trucks:=by
  rw[List.getD_eq_getElem?_getD,List.getElem?_eq_getElem hk]
  exact List.getElem_mem hk
 have:=List.all_eq_true.1 h _ hm
 simpa[oT]using this
def rA(c:Convoy):Bool:=decide (c.Trucks.length≤1000)&&c.Trucks.all fun t=>decide (t.Holds.length≤1000)
def nS(s:Go.Proofs.YtafnhieaeejlcaaDoor.Span):Span:=⟨s.lo,s.hi⟩
end
end Go.Proofs.Plain04
namespace Go.Ab
open Go Go.RowKit
set_option linter.all false
def Ok{α:Type}(P:α→Prop)(x:Option α):Prop:=∃a,x=some a∧P a
section
variable {α β:Type} {P:α→Prop} {Q:β→Prop}
theorem Ok.some{a:α}(h:P a):Ok P (some a):=⟨a,rfl,h⟩
theorem Ok.bind{x:Option α}{f:α→Option β}(hx:Ok P x)(hf:∀a,P a→Ok Q (f a)):Ok Q (x.bind f):=by
 obtain⟨a,rfl,ha⟩:=hx
 exact hf a ha
theorem Ok.mono{P' :α→Prop}{x:Option α}(hx:Ok P x)(h:∀a,P a→P' a):Ok P' x:=by
 obtain⟨a,rfl,ha⟩:=hx
 exact⟨a,rfl,h a ha⟩
theorem Ok.aW{b:Bool}{x:Option α}(hb:b=true)(hx:Ok P x):Ok P (aW b x):=by subst hb;exact hx
theorem Ok.ite{c:Bool}{x y:Option α}(hx:c=true→Ok P x)(hy:c=false→Ok P y):Ok P (bif c then x else y):=by
 cases c with
 |true=>exact hx rfl
 |false=>exact hy rfl
theorem Ok.rounds{γ:Type}{F:γ→(γ→Option α)→Option α}{v0:γ}(inv:γ→Prop)(μ:γ→Nat)(hμ:μ v0<xZ)(h0:inv v0)
 (step:∀v kn,inv v→(∀v',inv v'→μ v' <μ v→Ok P (kn v'))→Ok P (F v kn)):Ok P (cS γ F v0):=by
 have key:∀n v,inv v→μ v<n→Ok P (iter F n v):=by
  intro n
  induction n with
  |zero=>intro v _ h;omega
  |succ n ih=>
   intro v hv hn
   exact step v (iter F n) hv fun v' hv' hlt=>ih v' hv' (by omega)
 exact key xZ v0 h0 hμ
end
theorem aY{n:Int}(h1: -9223372036854775808≤n)(h2:n≤9223372036854775807):bz n=n:=by
 unfold bz IntKind.wrap
 simp[IntKind.bits,IntKind.signed,Int.bmod_def]
 omega
end Go.Ab
namespace Go.Proofs.Plain04
open Go Go.Ab
set_option linter.all false
theorem eY{n b:Nat}(hn:n≤1000000)(hb:b≤1000000):gU n b=true:=by
 unfold gU
 have:n*b≤1000000*1000000:=Nat.mul_le_mul hn hb
 simp;omega
theorem ok_eq{α:Type}{x:Option α}{a:α}(h:Ok (fun b=>b=a) x):x=some a:=by obtain⟨b,h1,rfl⟩:=h;exact h1
theorem Ok.beq{α β:Type}{Q:β→Prop}{x:Option α}{a:α}{f:α→Option β}(hx:x=some a)(hf:Ok Q (f a)):Ok Q (x.bind f):=by subst hx;exact hf
theorem Ok.KN{α γ:Type}{F:γ→(γ→Option α)→Option α}{v0:γ}(inv:γ→Prop)(μ:γ→Nat)(P:γ→α→Prop)(hμ:μ v0<xZ)(h0:inv v0)
 (step:∀v kn,inv v→(∀v',inv v'→μ v' <μ v→Ok (P v') (kn v'))→Ok (P v) (F v kn)):Ok (P v0) (cS γ F v0):=by
 have key:∀n v,inv v→μ v<n→Ok (P v) (iter F n v):=by
  intro n
  induction n with
  |zero=>intro v _ h;omega
  |succ n ih=>
   intro v hv hn
   exact step v (iter F n) hv fun v' hv' hlt=>ih v' hv' (by omega)
 exact key xZ v0 h0 hμ
theorem Mh{α:Type}{b:Bool}(h:b=true)(x y:α):(bif b then x else y)=x:=by subst h;rfl
theorem Jo{α:Type}{b:Bool}(h:b=false)(x y:α):(bif b then x else y)=y:=by subst h;rfl
theorem Ok.yes{α:Type}{b:Bool}{x y:Option α}{P:α→Prop}(h:b=true)(hx:Ok P x):Ok P (bif b then x else y):=by subst h;exact hx
theorem Ok.no{α:Type}{b:Bool}{x y:Option α}{P:α→Prop}(h:b=false)(hx:Ok P y):Ok P (bif b then x else y):=by subst h;exact hx
theorem ib{i:Int}{n:Nat}(h1:0≤i)(h2:i<n):(decide (0≤i)&&decide (i<(n:Int)))=true:=by simp;omega
theorem Pn{α β:Type}{f:α→β}{l:List α}{d:α}{i:Nat}(h:i<l.length):(l.map f).drop i=f (l.getD i d)::(l.map f).drop (i+1):=by
 rw[List.drop_eq_getElem_cons (by simpa using h)]
 simp[List.getD_eq_getElem?_getD,h]
theorem oI{α:Type}{l:List α}{d:α}{i:Nat}(h:i<l.length):l.getD i d∈l:=by
 rw[List.getD_eq_getElem?_getD,List.getElem?_eq_getElem h]
 exact List.getElem_mem h
theorem dM{α:Type}(f:Nat→α)(d:α){n i:Nat}(h:i<n):((List.range n).map f).getD i d=f i:=by
 rw[List.getD_eq_getElem?_getD,List.getElem?_map,List.getElem?_range h];rfl
theorem nn{α:Type}(f:Nat→α)(n:Nat):(List.range n).map f++[f n]=(List.range (n+1)).map f:=by
 rw[List.range_succ,List.map_append];rfl
theorem ez{α:Type}(f:Nat→α)(n:Nat):((List.range n).map f).length=n:=by simp
theorem kl{α:Type}{l:List α}(d:α):l=(List.range l.length).map (fun i=>l.getD i d):=by
 apply List.ext_getElem
 ·simp
 ·intro i h1 h2
  simp[List.getD_eq_getElem?_getD,List.getElem?_eq_getElem h1]
theorem Em{i:Int}(h:0≤i):(i+1).toNat=i.toNat+1:=by omega
end Go.Proofs.Plain04
