/- Walks by computing: what each function of the program that the laws reach gives for what it gets, as plain Lean, and that it is so; without a condition but those that stand in each theorem. -/
import Derived.Test.YtafnhieaeejlcaaDoorCards
import Derived.Test.YtafnhieaeejlcaaDoorTie
import Derived.WalkKit
import Derived.ProofKit
import Derived.OpenShut
import Derived.Deep.Slices
import Derived.Deep.DeepHandedRow
import Derived.Lib.LaidTab
import Derived.Test.YtafnhieaeejlcaaDoorW1
import Derived.Test.YtafnhieaeejlcaaDoorW2
import Derived.Test.YtafnhieaeejlcaaDoorW3
import Derived.Test.YtafnhieaeejlcaaDoorW4
import Derived.Test.YtafnhieaeejlcaaDoorW5
import Derived.Test.YtafnhieaeejlcaaDoorW6
import Derived.Test.YtafnhieaeejlcaaDoorW7
import Derived.Test.YtafnhieaeejlcaaDoorW8
import Derived.Test.YtafnhieaeejlcaaDoorW9
import Derived.Test.YtafnhieaeejlcaaDoorW10
import Derived.Test.YtafnhieaeejlcaaDoorW11
import Derived.Test.YtafnhieaeejlcaaDoorW12
import Derived.Test.YtafnhieaeejlcaaDoorW13
import Derived.Test.YtafnhieaeejlcaaDoorW14
import Derived.Test.YtafnhieaeejlcaaDoorW15
import Derived.Test.YtafnhieaeejlcaaDoorW16
import Derived.Test.YtafnhieaeejlcaaDoorW17
import Derived.Test.YtafnhieaeejlcaaDoorW18
set_option linter.all false
namespace Go.Proofs.Plain04
open Go Go.Ab
open Go.Proofs.YtafnhieaeejlcaaDoor (cn bf bX fc CR ai fg lK lY iX uu ov oh de)
set_option linter.all false
theorem yP{l:List Int}(hl:l.length≤1000000):AR l l=some true:=by
 rw[Ap];apply ok_eq
 refine Ok.no (by simp) ?_
 refine Ok.rounds (fun v=>0≤v.1.1∧v.1.1≤l.length) (fun v=>((l.length:Int)-v.1.1).toNat) ?_ ?_ ?_
 ·show((l.length:Int)-0).toNat<18446744073709551616
  omega
 ·exact⟨Int.le_refl _,by show(0:Int)≤_;omega⟩
 ·rintro ⟨⟨i,_⟩,_⟩ kn ⟨h1,h2⟩ hk
  simp only at h1 h2⊢
  have e:bz (i+1)=i+1:=aY (by omega) (by omega)
  refine Ok.ite (fun hlt=> ?_) fun _=>Ok.some rfl
  have hlt:=of_decide_eq_true hlt
  exact Ok.aW (ib h1 hlt) (Ok.aW (ib h1 hlt) (Ok.no (by simp) (hk _ (by simp only[e];omega) (by simp only[e];omega))))
section
open Classical
end
theorem map_take{α β:Type}(f:α→β)(d:α)(l:List α){n:Nat}(h:n<l.length):(List.range n).map (fun i=>f (l.getD i d))++[f (l.getD n d)]=(List.range (n+1)).map fun i=>f (l.getD i d):=nn _ n
end Go.Proofs.Plain04
namespace Go.Proofs.Plain04
open Go
open Go.Ab hiding atP
open Go.Proofs.YtafnhieaeejlcaaDoor (fc CR ai bD fg bI lK)
set_option linter.all false
theorem Ce{c:Convoy}{starts b l r:List Int}(h:xW c starts b l r)(hl:pR c starts l)(hb:b=[]∨pR c starts b):r=[]∨pR c starts r:=by
 have st:∀{b l:List Int},pR c starts l→(b=[]∨pR c starts b)→gr c starts b l=[]∨pR c starts (gr c starts b l):=fun{b l} hl hb=>by
  unfold gr
  split
  ·exact .inr hl
  ·exact hb
 induction h with
 |stop hn=>exact st hl hb
 |go hn _ ih=>exact ih (v5 hl hn) (st hl hb)
theorem xM(c:Convoy)(starts:List Int):Ok (D9 c starts) (kK c starts):=by
 rw[pU]
 refine Ok.beq (zu c) (OI (fun _ h=>h) fun h0 n0 n1 k0 k1=> ?_)
 refine Ok.bind (Co (by omega)) fun r2 h2=>Ok.ite (fun q=>Ok.some ?_) fun q=> ?_
 ·exact lV (Jq h0 n0 n1 k0 k1 (h2.1 q)) (by decide)
 have hs:yg starts:=Classical.byContradiction fun hn=>by rw[h2.2 hn]at q;cases q
 have hT:xw c starts:=⟨h0,n0,n1,k0,k1,hs⟩
 have hfin:∀b,xW c starts [] (lh c.Trucks.length) b→D9 c starts (ky c starts b):=fun b hb=>by
  unfold D9
  rw[if_neg (by rw[yS hT];decide)]
  exact⟨b,hb,rfl⟩
 refine Ok.rounds (fun v=>v.1.2.1=[]∧∃k:Nat,k≤c.Trucks.length∧v.1.2.2.2.2.1=(k:Int)∧v.1.2.2.2.1=(List.range k).map fun i=>(List.range starts.length).map (OU c starts i)) (fun v=>((c.Trucks.length:Int)-v.1.2.2.2.2.1).toNat) ?_ ?_ ?_
 ·show((c.Trucks.length:Int)-0).toNat<18446744073709551616
  omega
 ·exact⟨rfl,0,Nat.zero_le _,rfl,rfl⟩
 rintro ⟨⟨_,list,_,all,x,_⟩,_⟩ kn ⟨e0,i,i1,e1,e2⟩ hk
 simp only at e0 e1 e2 hk⊢
 subst e0 e1 e2
 refine Ok.ite (fun hlt=> ?_) fun hge=> ?_
 ·have hlt:i<c.Trucks.length:=by have:=of_decide_eq_true hlt;omega
  have ei:bz ((i:Int)+1)=((i+1:Nat):Int):=by rw[aY (by omega) (by omega)];push_cast;rfl
  refine Ok.rounds (fun v=>v.1.2.1=[]∧∃k:Nat,k≤starts.length∧v.1.2.2.2.2.2.1=(k:Int)∧v.1.2.2.2.2.1=(List.range k).map (OU c starts i)) (fun v=>((starts.length:Int)-v.1.2.2.2.2.2.1).toNat) ?_ ?_ ?_
  ·show((starts.length:Int)-0).toNat<18446744073709551616
   omega
  ·exact⟨rfl,0,Nat.zero_le _,rfl,rfl⟩
  rintro ⟨⟨_,list2,_,_,row,y,_⟩,_⟩ kn2 ⟨f0,k,k1',f1,f2⟩ hk2
  simp only at f0 f1 f2 hk2⊢
  subst f0 f1 f2
  refine Ok.ite (fun hlt2=> ?_) fun hge2=> ?_
  ·have hlt2:k<starts.length:=by have:=of_decide_eq_true hlt2;omega
   have ek:bz ((k:Int)+1)=((k+1:Nat):Int):=by rw[aY (by omega) (by omega)];push_cast;rfl
   simp only[Int.toNat_natCast]
   have hz:(List.replicate c.Trucks.length (0:Int)).length=c.Trucks.length:=List.length_replicate
   have hl:pR c starts ((List.replicate c.Trucks.length (0:Int)).set i (k:Int)):=by
    refine⟨by simp,fun j hj=> ?_⟩
    rw[kA]
    split
    ·omega
    ·rw[List.getD_eq_getElem?_getD,List.getElem?_replicate]
     split<;>simp<;>omega
   have hget:x4 c starts ((List.replicate c.Trucks.length (0:Int)).set i (k:Int)) i=xD (c.Trucks.getD i ax) (starts.getD k 0):=by
    unfold x4
    rw[kA,if_pos ⟨rfl,by simpa using hlt⟩];rfl
   have hrow:((List.range (nD c starts ((List.replicate c.Trucks.length (0:Int)).set i (k:Int))).Trucks.length).map fun j=>lO (nD c starts ((List.replicate c.Trucks.length (0:Int)).set i (k:Int))) ((nD c starts ((List.replicate c.Trucks.length (0:Int)).set i (k:Int))).Trucks.getD j ax)).getD i gm=OU c starts i k:=by
    rw[dM _ _ (by rw[AL];exact hlt),mQ hlt,hget];rfl
   refine Ok.aW (by simp[Bz];omega) (Ok.aW (by simp;omega) (Ok.aW (by simp;omega) (Ok.beq (uv (by omega) hl) (Ok.beq (EG (pc h0 hs hl)) (Ok.aW (by rw[ez,AL];exact ib (by omega) (by omega)) ?_)))))
   rw[hrow]
   refine Ok.aW (eY (by simp;omega) (by omega)) (hk2 _ ⟨rfl,k+1,hlt2,ek,nn (OU c starts i) k⟩ ?_)
   simp only[ek];omega
  ·have hge2:k=starts.length:=by have:=of_decide_eq_false hge2;omega
   subst hge2
   refine Ok.aW (eY (by simp;omega) (by omega)) (hk _ ⟨rfl,i+1,hlt,ei,nn (fun i=>(List.range starts.length).map (OU c starts i)) i⟩ ?_)
   simp only[ei];omega
 ·have hge:i=c.Trucks.length:=by have:=of_decide_eq_false hge;omega
  subst hge
  refine Ok.aW (by simp[Bz];omega) ?_
  change Ok _ (cS _ _ (((),[],(),(),(),lh c.Trucks.length,()),((0,0,()),())))
  refine Ok.rounds (fun v=>pR c starts v.1.2.2.2.2.2.1∧(v.1.2.1=[]∨pR c starts v.1.2.1∧v.2.1.2.1=HI c starts v.1.2.1)∧∀r,xW c starts v.1.2.1 v.1.2.2.2.2.2.1 r→xW c starts [] (lh c.Trucks.length) r) (fun v=>10000-vL starts.length v.1.2.2.2.2.2.1) ?_ ?_ ?_
  ·show 10000-vL starts.length (lh c.Trucks.length)<18446744073709551616
   omega
  ·exact⟨tz k0, .inl rfl,fun _ q=>q⟩
  rintro ⟨⟨_,list,_,_,_,now,_⟩,⟨⟨lo,hi,_⟩,_⟩⟩ kn3 ⟨g1,g2,g3⟩ hk3
  simp only at g1 g2 g3 hk3⊢
  refine Nx hT g1 g2 (fun l' a b hx hb=>hk3 _ ⟨v5 g1 hx,hb,fun r q=>g3 _ (.go hx q)⟩ ?_) fun hx=>hfin _ (g3 _ (.stop hx))
  have:=Mp g1 n1 k1
  simp only[FC g1 hx];omega
end Go.Proofs.Plain04
namespace Go.Ab
open Go Go.RowKit
noncomputable section
set_option linter.all false
section
variable {Z:Seat}
end
section
variable {Z:ISeat}
end
end
end Go.Ab
namespace Go.Ab
open Go Go.RowKit
noncomputable section
set_option linter.all false
set_option maxHeartbeats 1000000
section
variable {X:Ctx} {Z:ISeat}
end
end
end Go.Ab
namespace Go.Ab
open Go Go.RowKit
noncomputable section
set_option linter.all false
set_option maxHeartbeats 1000000
section
variable {X:Ctx} {Z:ISeat}
abbrev Mask:=List (Option (Nat×T))
def iO(S:IS):Mask→List I→Option (List I×List Nat)
 |none::ms,c::cs=>(match iO S ms cs with|some p=>some (c::p.1,p.2)|none=>none)
 |some q::ms, .os s g::cs=>live S s g (match S.own s with
  | .arr E e l=>bif Nat.beq E q.1 then(match uS q.2 e l with
    |some m=>(match iO S ms cs with|some p=>some (.sl q.2 m::p.1,s::p.2)|none=>none)
    |none=>none)else none
  |_=>none)
 |[],[]=>some ([],[])
 |_,_=>none
def pL:Mask→List I→Nat→Option (List zb×List I)
 |none::ms,c::cs,i=>(match pL ms cs i with|some p=>some (p.1,c::p.2)|none=>none)
 |some q::ms, .sl e l::cs,i=>(match uS q.2 e l with
  |some m=>(match pL ms cs (i+1)with|some p=>some (⟨q.1,q.2,m⟩::p.1, .os i 1::p.2)|none=>none)
  |none=>none)
 |[],[],_=>some ([],[])
 |_,_,_=>none
theorem Am{S:IS}{h:Nat→Nat}:∀{ms:Mask} {c row:List I} {ss:List Nat} (i0:Nat),iO S ms c=some (row,ss)→
 ∃os k,pL ms row i0=some (os,k)∧os.length=ss.length∧(∀i,i<os.length→(S.aJ h).σ (atP ss i)=(Ii os i).RC.own)∧
  (∀f:Nat→Nat×Nat,(∀i,i<os.length→f (i0+i)=(atP ss i,S.gen (atP ss i)))→(∀d∈row,si f d=d)→lI f k=c)
 |[],[],row,ss,i0,hr=>by simp only[iO,Option.some.injEq,Prod.mk.injEq]at hr;obtain⟨rfl,rfl⟩:=hr;exact⟨[],[],rfl,rfl,fun i hi=>by simp at hi,fun f _ _=>rfl⟩
 |none::ms,c::cs,row,ss,i0,hr=>by
  simp only[iO]at hr
  split at hr
  ·rename_i p hp
   simp only[Option.some.injEq,Prod.mk.injEq]at hr
   obtain⟨rfl,rfl⟩:=hr
   obtain⟨os,k,h1,h2,h3,h4⟩:=Am i0 (show iO S ms cs=some (p.1,p.2) from hp)
   refine⟨os,c::k,by simp only[pL,h1],h2,h3,fun f hf hd=> ?_⟩
   simp only[lI,h4 f hf fun d hd' =>hd d (List.mem_cons_of_mem _ hd'),hd c (List.mem_cons_self ..)]
  ·cases hr
 |some q::ms, .os s g::cs,row,ss,i0,hr=>by
  simp only[iO]at hr
  replace hr:=dp hr
  obtain⟨rfl,hr⟩:=hr
  split at hr
  ·rename_i E e l hσ
   cases hE:Nat.beq E q.1 with
   |false=>rw[hE]at hr;cases hr
   |true=>
    rw[hE]at hr
    have hE:=Nat.eq_of_beq_eq_true hE
    subst hE
    simp only[cond_true]at hr
    split at hr
    ·rename_i m hm
     split at hr
     ·rename_i p hp
      simp only[Option.some.injEq,Prod.mk.injEq]at hr
      obtain⟨rfl,rfl⟩:=hr
      obtain⟨os,k,h1,h2,h3,h4⟩:=Am (i0+1) (show iO S ms cs=some (p.1,p.2) from hp)
      have hσ' :S.own s= .arr q.1 q.2 m:=by
       rw[hσ]
       unfold uS at hm
       split at hm
       ·rename_i e';subst e';simp only[Option.some.injEq]at hm;subst hm;rfl
       ·cases hm
      have ha:uS q.2 q.2 m=some m:=by simp[uS]
      refine⟨⟨q.1,q.2,m⟩::os, .os i0 1::k,by simp only[pL,ha,h1],by simp[h2],fun i hi=> ?_,fun f hf hd=> ?_⟩
      ·cases i with
       |zero=>show(S.own s).bq h=_;rw[hσ'];rfl
       |succ i=>exact h3 i (by simpa using hi)
      ·have hf0:=hf 0 (by simp)
       simp only[lI,si]
       rw[h4 f (fun i hi=>by have:=hf (i+1) (by simp;exact hi);rw[←Nat.add_assoc,Nat.add_right_comm]at this;exact this) fun d hd' =>hd d (List.mem_cons_of_mem _ hd')]
       simp only[Nat.add_zero]at hf0
       rw[hf0];rfl
     ·cases hr
    ·cases hr
  ·cases hr
 |[],_::_,_,_,_,hr=>by simp[iO]at hr
 |_::_,[],_,_,_,hr=>by simp[iO]at hr
 |some _::_, .int _ _::_,_,_,_,hr=>by simp[iO]at hr
 |some _::_, .bool _::_,_,_,_,hr=>by simp[iO]at hr
 |some _::_, .str _::_,_,_,_,hr=>by simp[iO]at hr
 |some _::_, .agg _::_,_,_,_,hr=>by simp[iO]at hr
 |some _::_, .tup _::_,_,_,_,hr=>by simp[iO]at hr
 |some _::_, .sl _ _::_,_,_,_,hr=>by simp[iO]at hr
 |some _::_, .nil::_,_,_,_,hr=>by simp[iO]at hr
 |some _::_, .rp _ _::_,_,_,_,hr=>by simp[iO]at hr
 |some _::_, .bx _ _ _::_,_,_,_,hr=>by simp[iO]at hr
 |some _::_, .op _ _ _ _ _::_,_,_,_,hr=>by simp[iO]at hr
 |some _::_, .ow _ _ _ _ _::_,_,_,_,hr=>by simp[iO]at hr
 |some _::_, .fn _ _::_,_,_,_,hr=>by simp[iO]at hr
 |some _::_, .yl _::_,_,_,_,hr=>by simp[iO]at hr
 |some _::_, .mf _ _::_,_,_,_,hr=>by simp[iO]at hr
 |some _::_, .one::_,_,_,_,hr=>by simp[iO]at hr
 |some _::_, .undef::_,_,_,_,hr=>by simp[iO]at hr
theorem uW:∀{ms:Mask} {row:List I} {i0:Nat} {os:List zb} {k:List I},pL ms row i0=some (os,k)→∀d∈k,d∈row∨∃i,i0≤i∧i<i0+os.length∧d= .os i 1
 |[],[],i0,os,k,h=>by simp only[pL,Option.some.injEq,Prod.mk.injEq]at h;obtain⟨rfl,rfl⟩:=h;intro d hd;cases hd
 |none::ms,c::cs,i0,os,k,h=>by
  simp only[pL]at h
  split at h
  ·rename_i p hp
   simp only[Option.some.injEq,Prod.mk.injEq]at h
   obtain⟨rfl,rfl⟩:=h
   intro d hd
   rcases List.mem_cons.1 hd with rfl|hd
   ·exact .inl (List.mem_cons_self ..)
   ·exact(uW (show pL ms cs i0=some (p.1,p.2) from hp) d hd).imp (List.mem_cons_of_mem _) id
  ·cases h
 |some q::ms, .sl e l::cs,i0,os,k,h=>by
  simp only[pL]at h
  split at h
  ·split at h
   ·rename_i p hp
    simp only[Option.some.injEq,Prod.mk.injEq]at h
    obtain⟨rfl,rfl⟩:=h
    intro d hd
    rcases List.mem_cons.1 hd with rfl|hd
    ·exact .inr ⟨i0,Nat.le_refl _,by simp,rfl⟩
    ·rcases uW (show pL ms cs (i0+1)=some (p.1,p.2) from hp) d hd with h1|⟨i,h1,h2,h3⟩
     ·exact .inl (List.mem_cons_of_mem _ h1)
     ·exact .inr ⟨i,by omega,by simp;omega,h3⟩
   ·cases h
  ·cases h
 |[],_::_,_,_,_,h=>by simp[pL]at h
 |_::_,[],_,_,_,h=>by simp[pL]at h
 |some _::_, .int _ _::_,_,_,_,h=>by simp[pL]at h
 |some _::_, .bool _::_,_,_,_,h=>by simp[pL]at h
 |some _::_, .str _::_,_,_,_,h=>by simp[pL]at h
 |some _::_, .agg _::_,_,_,_,h=>by simp[pL]at h
 |some _::_, .tup _::_,_,_,_,h=>by simp[pL]at h
 |some _::_, .os _ _::_,_,_,_,h=>by simp[pL]at h
 |some _::_, .nil::_,_,_,_,h=>by simp[pL]at h
 |some _::_, .rp _ _::_,_,_,_,h=>by simp[pL]at h
 |some _::_, .bx _ _ _::_,_,_,_,h=>by simp[pL]at h
 |some _::_, .op _ _ _ _ _::_,_,_,_,h=>by simp[pL]at h
 |some _::_, .ow _ _ _ _ _::_,_,_,_,h=>by simp[pL]at h
 |some _::_, .fn _ _::_,_,_,_,h=>by simp[pL]at h
 |some _::_, .yl _::_,_,_,_,h=>by simp[pL]at h
 |some _::_, .mf _ _::_,_,_,_,h=>by simp[pL]at h
 |some _::_, .one::_,_,_,_,h=>by simp[pL]at h
 |some _::_, .undef::_,_,_,_,h=>by simp[pL]at h
def zO(rt:T)(ms:Mask)(x:den rt):Option (List zb×I):=match pL ms (bO rt x) 0 with
 |some p=>some (p.1,fB rt p.2)
 |none=>none
theorem Ei(f:Nat→Nat×Nat):∀(t:T) (x:den t),lI f (bO t x)=bO t x:=by intro t x;cases t<;>rfl
theorem GU(f:Nat→Nat×Nat)(t:T)(x:den t):∀d∈bO t x,si f d=d:=by
 have h:=Ei f t x
 generalize bO t x=l at h⊢
 induction l with
 |nil=>intro d hd;cases hd
 |cons a l ih=>
  simp only[lI,List.cons.injEq]at h
  intro d hd
  rcases List.mem_cons.1 hd with rfl|hd
  ·exact h.1
  ·exact ih h.2 d hd
theorem Qc{rt:T}{ms:Mask}{x:den rt}{os:List zb}{k:List I}(hk:pL ms (bO rt x) 0=some (os,k))(h:Nat→Nat):Ko os.length ((fB rt k).bV h):=by
 have hp:∀d∈k,Ko os.length (d.bV h):=fun d hd=>by
  rcases uW hk d hd with hd|⟨i,_,hi,rfl⟩
  ·refine .pure _ ?_
   have:=b9 rt x
   rw[←aT h]at this
   refine this _ ?_
   rw[dO]
   exact List.mem_map_of_mem hd
  ·exact .os _ _ (by omega)
 have hpl:D1 os.length (I.ao h k):=by
  clear hk
  induction k with
  |nil=>exact .nil
  |cons d k ih=>exact .cons _ _ (hp d (List.mem_cons_self ..)) (ih fun y hy=>hp y (List.mem_cons_of_mem _ hy))
 unfold fB
 cases oN rt with
 |true=>exact .agg _ hpl
 |false=>
  simp only[cond_false]
  split
  ·rename_i d;exact hp d (List.mem_cons_self ..)
  ·exact .pure _ .undef
theorem OA{rt:T}{ms:Mask}{x:den rt}{os:List zb}{k:List I}(hk:pL ms (bO rt x) 0=some (os,k))(f:Nat→Nat×Nat)(h h' :Nat→Nat):mS f ((fB rt k).bV h)=mS f ((fB rt k).bV h'):=by
 have hm:∀y∈k,mS f (y.bV h)=mS f (y.bV h'):=fun y hy=>by
  have he:∀y∈bO rt x,y.bV h=y.bV h' :=fun y hy=>by
   have h1:(bO rt x).map (I.bV h)=(bO rt x).map (I.bV h'):=by rw[←dO,←dO,aT,aT]
   exact List.map_inj_left.1 h1 y hy
  rcases uW hk y hy with hy|⟨i,_,_,rfl⟩
  ·rw[he y hy]
  ·rfl
 have hl:oV f (I.ao h k)=oV f (I.ao h' k):=by
  clear hk
  induction k with
  |nil=>rfl
  |cons d k ih=>simp only[I.ao,oV,hm d (List.mem_cons_self ..),ih fun y hy=>hm y (List.mem_cons_of_mem _ hy)]
 unfold fB
 cases oN rt with
 |true=>simp only[cond_true,I.bV,mS,hl]
 |false=>
  simp only[cond_false]
  split
  ·rename_i d;exact hm d (List.mem_cons_self ..)
  ·rfl
def EB(Z:ISeat)(nt:Nat)(rv:List ResultVar)(rt:T)(ms:Mask)(S:IS):Option (den rt):=match nv Z nt S rv with
 |some [d]=>(match zS rt d with
  |some c=>(match iO S ms c with
   |some p=>bif uM p.2&&jx p.1 then fM rt p.1 else none
   |none=>none)
  |none=>none)
 |_=>none
theorem HK:∀{l:List Nat},uM l=true→∀{i j:Nat},i<l.length→j<l.length→atP l i=atP l j→i=j:=fun{l} hd {i j} hi hj h=>by
 have a:=wQ hd hi
 have b:=wQ hd hj
 rw[h]at a
 omega
theorem GR{nt:Nat}(hX:At X Z nt){rv:List ResultVar}{rt:T}{ms:Mask}{S:IS}{x:den rt}{h h' :Nat→Nat}(hr:EB Z nt rv rt ms S=some x):
 ∃os d,zO rt ms x=some (os,d)∧∃ss:Nat→Nat,(∀i j,i<os.length→j<os.length→ss i=ss j→i=j)∧(∀i,i<os.length→(S.aJ h).σ (ss i)=(Ip os i).own)∧∃ds,kV X (S.aJ h) rv ds∧gu ds=mS (fun i=>(ss i,(S.aJ h).γ (ss i))) (d.bV h'):=by
 unfold EB at hr
 split at hr
 ·rename_i d hd
  split at hr
  ·rename_i c hc
   split at hr
   ·rename_i p hp
    cases hb:uM p.2&&jx p.1 with
    |false=>rw[hb]at hr;cases hr
    |true=>
     rw[hb]at hr
     simp only[cond_true]at hr
     rw[Bool.and_eq_true]at hb
     have hrx:=jH (cL rt hr) hb.2
     obtain⟨os,k,h1,h2,h3,h4⟩:=Am (h:=h) 0 (show iO S ms c=some (p.1,p.2) from hp)
     rw[hrx]at h1 h4
     refine⟨os,fB rt k,by unfold zO;rw[h1],atP p.2,fun i j hi hj e=>HK hb.1 (by omega) (by omega) e,h3,[d.bV h],mr hX hd, ?_⟩
     show d.bV h=_
     rw[OA h1 _ h' h]
     have e1:lI (fun i=>(atP p.2 i,S.gen (atP p.2 i))) k=c:=h4 _ (fun i hi=>by rw[Nat.zero_add]) (GU _ rt x)
     have e2:(fB rt c)=d:=zn hc
     have e3:si (fun i=>(atP p.2 i,S.gen (atP p.2 i))) (fB rt k)=fB rt c:=by
      unfold fB
      cases hi:oN rt with
      |true=>simp only[cond_true,si,e1]
      |false=>
       simp only[cond_false]
       rw[←e1]
       match k with
       |[]=>rfl
       |[a]=>rfl
       |_::_::_=>rfl
     rw[←e2,←e3,pG]
     rfl
   ·cases hr
  ·cases hr
 ·cases hr
end
end
end Go.Ab
namespace Go.Ab
open Go Go.RowKit
noncomputable section
set_option linter.all false
set_option maxHeartbeats 1000000
section
variable {X:Ctx} {Z:ISeat}
def uZ(Z:ISeat)(nt:Nat)(rv:List ResultVar)(bt rt:T)(ms:Mask)(S:IS):Option (den bt×den rt):=match S.own 0 with
 | .box l=>(match fM bt l,EB Z nt rv rt ms S with|some y,some x=>some (y,x)|_,_=>none)
 |_=>none
def B1{bt:T}(rt:T)(ms:Mask)(it:It (den bt×den rt))(E:dC Z)(c:Code)(rv:List ResultVar)(l A:List I):Option (den bt×den rt):=
 jN it E c ⟨[],[]⟩ (nV l A) (uZ Z E.nt rv bt rt ms) (fun e S=>match e with|none=>uZ Z E.nt rv bt rt ms S|some _=>none)
theorem wM{bt:T}{ats:List T}{rt:T}{ms:Mask}{E:dC Z}{f:FuncId}{fn:Func}{c:Code}(hf:Z.P.funcs[f]? =some fn)(hb:fn.body=some c)(hname:(fn.name== "runtime.NumGoroutine")=false)(hn:Nat.beq fn.ntmps E.nt=true)(hl:Nat.ble (ats.length+1) fn.ntmps=true)(hp:E.pin=[0])
 {b y:den bt}{a:dB ats}{x:den rt}(hr:B1 rt ms cS E c fn.results.toList (bO bt b) (b6 ats a)=some (y,x)){os:List zb}{d:I}(hd:zO rt ms x=some (os,d))(h:Nat→Nat):
 jL Z.toSeat f (I.ao h (bO bt b)) (I.ao h (bO bt y)) (I.ao h (b6 ats a)) (d.bV h) os.length (Ip os):=by
 have hk:∃k,pL ms (bO rt x) 0=some (os,k)∧d=fB rt k:=by
  unfold zO at hd
  split at hd
  ·rename_i p hp
   simp only[Option.some.injEq,Prod.mk.injEq]at hd
   obtain⟨rfl,rfl⟩:=hd
   exact⟨_,hp,rfl⟩
  ·cases hd
 obtain⟨k,hk,hdk⟩:=hk
 subst hdk
 have pb:∀(h:Nat→Nat) (z:den bt),af (I.ao h (bO bt z)):=fun h z=>by rw[aT];exact b9 bt z
 have cb:∀(h:Nat→Nat) (z:den bt),aU (I.ao h (bO bt z))=true:=fun h z=>by rw[aT];exact mF bt z
 rw[pz h zh,aT h bt b,←aT zh bt b]
 refine rT hf hb hname (by rw[eZ,mB];exact hl) (pb _ _) (pb _ _) (cb _ _) (cb _ _) (ga _ _ _) (Qc hk h) (fun j _ i _=>b9 _ _) fun w κ b' => ?_
 have hX:At (Ctx.plain Z.toSeat fn.ntmps w κ (some b')) Z E.nt:=At.pl rfl (Nat.eq_of_beq_eq_true hn) (fun _=>rfl)
 rw[←wR]
 have fin:∀h2 S,Inv E.pin (fun _=>1) ⟨[],[]⟩ h2 S→uZ Z E.nt fn.results.toList bt rt ms S=some (y,x)→∃S' l,∃ss:Nat→Nat,∃ds,Wk (Ctx.plain Z.toSeat fn.ntmps w κ (some b')) (IS.aJ h2 S) S'∧S'.γ 0=1∧S'.σ 0= .box l∧(∀κ γ sv vs,RepL κ γ sv l vs→RepL κ γ sv (I.ao h (bO bt y)) vs)∧(∀i j,i<os.length→j<os.length→ss i=ss j→i=j)∧(∀i,i<os.length→S'.σ (ss i)=(Ip os i).own)∧kV (Ctx.plain Z.toSeat fn.ntmps w κ (some b')) S' fn.results.toList ds∧gu ds=mS (fun i=>(ss i,S'.γ (ss i))) ((fB rt k).bV h):=fun h2 S hi hq=>by
  unfold uZ at hq
  split at hq
  ·rename_i l hl0
   split at hq
   ·rename_i y' x' hy hx
    simp only[Option.some.injEq,Prod.mk.injEq]at hq
    obtain⟨rfl,rfl⟩:=hq
    obtain⟨os',d',h3,ss,h4,h5,ds,h6,h7⟩:=GR hX (h:=h2) (h' :=h) hx
    rw[hd]at h3
    simp only[Option.some.injEq,Prod.mk.injEq]at h3
    obtain⟨rfl,rfl⟩:=h3
    refine⟨_,I.ao h2 l,ss,ds,Wk.refl _ _,hi.1 0 (by rw[hp];exact List.mem_cons_self ..),by show(S.own 0).bq h2=_;rw[hl0];rfl,fun κ γ sv vs hv=> ?_,h4,h5,h6,h7⟩
    rw[aT,←aT h2]
    exact fp (dT h2 (cL bt hy)) hv
   ·cases hq
  ·cases hq
 refine fL (fX c hX (fun _=>⟨_,_,_,_,_,rfl⟩) (g0:=fun _=>1) ⟨[],[]⟩ rfl _ _ _ zh ⟨(fun g hg=>by rw[hp]at hg;simp only[List.mem_singleton]at hg;subst hg;rfl),⟨(fun p hp=>(nomatch hp)),(fun p hp=>(nomatch hp))⟩⟩ hr) ?_
 rintro e T ⟨h2,S,rfl,hi,hq⟩
 cases e with
 |normal=>exact fin h2 S hi hq
 |ret=>exact fin h2 S hi hq
 |exit i=>cases hq
 |_=>exact hq.elim
def Hn(Z:Seat)(f:FuncId)(bt:T)(ats:List T)(rt:T)(ms:Mask)(F:den bt→dB ats→Option (den bt×den rt))(hF:∀b a y x,F b a=some (y,x)→∀os d,zO rt ms x=some (os,d)→∀h,jL Z f (I.ao h (bO bt b)) (I.ao h (bO bt y)) (I.ao h (b6 ats a)) (d.bV h) os.length (Ip os)):ic Z where
 f:=f
 app:=fun l A k=>match fM bt l,pS ats A with
  |some b,some a=>(F b a).bind fun p=>(match zO rt ms p.2 with|some y=>k (bO bt p.1) y.1 y.2|none=>none)
  |_,_=>none
 ok:=fun l A k r h=>by
  split at h
  ·rename_i b a hb ha
   cases hx:F b a with
   |none=>rw[hx]at h;cases h
   |some p=>
    obtain⟨y,x⟩:=p
    rw[hx]at h
    simp only[Option.bind_some]at h
    split at h
    ·rename_i q hq
     refine⟨_,_,_,h,fun h=> ?_⟩
     have hc:=hF b a y x hx q.1 q.2 hq h
     exact⟨j4 ha,vh (cL bt hb) h (by rw[aT];exact b9 bt b),hc.purel',hc.cell',hc.poR,hc.pureE,hc.body,fun w κ args b T cs h1 h2 h3 h4 h5 h6=>hc.calls w κ args b T cs h1 h2 h3 (fp (dT h (cL bt hb)) h4) h5 (l7 ha h6)⟩
    ·cases h
  ·cases h
end
end
end Go.Ab
namespace Go.Ab
open Go Go.RowKit
noncomputable section
set_option linter.all false
set_option maxHeartbeats 1000000
section
variable {R:Type} {X:Ctx} {Z:ISeat} {r:R}
def Lr:List A0→List I→List Nat
 | .d _::l,d::ds=>nA d++Lr l ds
 | .o _::l,_::ds=>Lr l ds
 |_,_=>[]
def EY(bks:List BK)(rk:List A0)(nt:Nat)(rv:List ResultVar)(F:Fix)(S:IS):Option (Bh bks×Hm rk):=match nv Z nt S rv with
 |some [.agg c0]=>sQ F S (dZ S (QL S 0 bks++Lr rk c0)) fun S=>(match uP S 0 bks,nv Z nt S rv with
  |some y,some [.agg c]=>(match rO S.gen rk c with|some z=>some (y,z)|none=>none)
  |_,_=>none)
 |_=>none
def Kb(bks:List BK){rk:List A0}(it:It (Bh bks×Hm rk))(E:dC Z)(c:Code)(rv:List ResultVar)(x:tV bks)(A:List I):Option (Bh bks×Hm rk):=
 jN it E c ⟨[],iy 0 bks x⟩ (uc (bH bks x) A) (EY (Z:=Z) bks rk E.nt rv ⟨[],iy 0 bks x⟩) (fun e S=>match e with|none=>EY (Z:=Z) bks rk E.nt rv ⟨[],iy 0 bks x⟩ S|some _=>none)
theorem qR{n:Nat}{q:Nat→Nat}:∀{l:List A0} (z:Hm l),(∀j∈oJ l,j<n∧q j=XB+j)→vb n q one q one (I.ao zh (qb l z)) (I.ao zh (qb l z))
 |[],_,_=> .nil
 | .d t::l,z,h=> .cons _ _ _ _ (.pure _ (pD zh t z.1)) (qR z.2 h)
 | .o j::l,z,h=>by
   obtain⟨h1,h2⟩:=h j (List.mem_cons_self ..)
   refine .cons _ _ _ _ ?_ (qR (l:=l) z fun i hi=>h i (List.mem_cons_of_mem _ hi))
   have:=Rn.os (n:=n) (p:=q) (g:=one) (p' :=q) (g' :=one) j h1
   have h2:q j=XB+j:=h2
   rw[h2]at this
   exact this
theorem AE{bks:List BK}{aks:List AK}{rk:List A0}{E:dC Z}{f:FuncId}{fn:Func}{c:Code}(hf:Z.P.funcs[f]? =some fn)(hb:fn.body=some c)(hname:(fn.name== "runtime.NumGoroutine")=false)(hn:Nat.beq fn.ntmps E.nt=true)(hl:Nat.ble aks.length fn.ntmps=true)(hp:E.pin=O3 0 bks)(hrf:E.rf=false)(ht:xV bks bks=true)(hlb:Nat.blt bks.length XB=true)(hrk:(oJ rk).all (Aq bks)=true)
 {x:tV bks}{a:HG aks}{y:Bh bks×Hm rk}(hr:Kb bks cS E c fn.results.toList x (kD aks a)=some y):jg Z.toSeat f (bH bks x).length (pQ (bH bks x)) (sm (bH bks x)) (tN (fE 0 bks) (ee bks y.1) (sm (bH bks x))) (I.ao zh (kD aks a)) ((I.agg (qb rk y.2)).bV zh):=by
 have hF:∀j,j<bks.length→sm (bH bks x) (0+j)=(nthW (bH bks x) j).bq zh:=fun j _=>by rw[Nat.zero_add];rfl
 have hlen:=OC hlb x
 have hinj:=Jw hlen
 have hb1:∀s,CM bks s=true→s<(bH bks x).length∧pQ (bH bks x) s=s:=fun s hs=>by
  obtain⟨h1,h2⟩:=mu x hs
  exact⟨by rw[dG];exact h1,by unfold pQ;rw[h2];rfl⟩
 have hb2:∀s,Aq bks s=true→s<(bH bks x).length∧pQ (bH bks x) s=XB+s:=fun s hs=>by
  obtain⟨h1,h2⟩:=mq x hs
  exact⟨by rw[dG];exact h1,by unfold pQ;rw[h2];rfl⟩
 have hrk:∀j∈oJ rk,Aq bks j=true:=List.all_eq_true.1 hrk
 have hpin:∀h S,Inv E.pin (fun _=>1) ⟨[],iy 0 bks x⟩ h S→∀i,i<bks.length→h (pQ (bH bks x) i)+S.gen (pQ (bH bks x) i)=1:=fun h S hi i hi2=>hi.1 _ (by rw[hp,E1 bks 0 _ x];exact⟨i,hi2,lG _ _⟩)
 have hpa:∀h S,Inv E.pin (fun _=>1) ⟨[],iy 0 bks x⟩ h S→∀s,Aq bks s=true→h (XB+s)+S.gen (XB+s)=1:=fun h S hi s hs=>by
  obtain⟨h1,h3⟩:=hb2 s hs
  have:=hpin _ _ hi s (by rw[dG]at h1;exact h1)
  rw[h3]at this;exact this
 have fin:∀h2 S,Inv E.pin (fun _=>1) ⟨[],iy 0 bks x⟩ h2 S→EY (Z:=Z) bks rk E.nt fn.results.toList ⟨[],iy 0 bks x⟩ S=some y→∀{X:Ctx},At X Z E.nt→∃S' ds,Wk X (S.aJ h2) S'∧(∀i,i<(bH bks x).length→S'.γ (pQ (bH bks x) i)=1∧AV (S'.σ (pQ (bH bks x) i)) (tN (fE 0 bks) (ee bks y.1) (sm (bH bks x)) i))∧kV X S' fn.results.toList ds∧∀κ γ sv v,cX κ γ sv (gu ds) v→cX κ γ sv ((I.agg (qb rk y.2)).bV zh) v:=fun h2 S hi hq X hX=>by
  unfold EY at hq
  split at hq
  case h_2=>cases hq
  rename_i c0 _
  unfold sQ at hq
  obtain⟨hfz,hq⟩:=ak hq
  generalize dZ S (QL S 0 bks++Lr rk c0)=fl at hfz hq
  have hi2:=hi.qS (F:=⟨[],iy 0 bks x⟩) (show okF ⟨[],iy 0 bks x⟩=true from iU bks 0 x) hfz
  simp only at hq
  split at hq
  case h_2=>cases hq
  rename_i y1 c hy hds
  split at hq
  case h_2=>cases hq
  rename_i z hz
  simp only[Option.some.injEq]at hq
  subst hq
  have hrd:=pa (all:=bks) (h:=h2) (fun s hs=>by
   obtain⟨h1,h3⟩:=hb1 s hs
   have:=hpin _ _ hi2 s (by rw[dG]at h1;exact h1)
   rw[h3]at this;exact this) (hpa _ _ hi2) bks 0 x y1 (sm (bH bks x)) ht hi2.2.2 hy hF
  refine⟨(qS S fl).aJ h2,I.ao h2 [.agg c],lF fl S (xh hX.xa hfz),fun i hil=> ?_,mr hX hds,fun κ γ sv v hv=> ?_⟩
  ·rw[dG]at hil
   refine⟨hpin _ _ hi2 i hil, ?_⟩
   have:=hrd i hil
   rw[Nat.zero_add]at this
   rw[lG,Nat.zero_add]
   exact this
  ·have hv:cX κ γ sv (.agg (I.ao h2 c)) v:=hv
   cases hv with
   |agg _ ws r3=>exact .agg _ _ (zA (fun j hj=>hpa _ _ hi2 j (hrk j hj)) hz r3)
 have haf:=mv hb1 hb2 bks 0 x y.1 (sm (bH bks x)) ht hF
 have hk:=KQ bks 0 x y.1 (sm (bH bks x)) hF
 refine uK hf hb hname (by rw[eZ,mI];exact hl) (fun i j hi hj e=>hinj i j hi hj (by rw[←lG,←lG];exact e)) (fun i hi E' z m g ho=> ?_) (fun i hi=> ?_) (fun i hi=> ?_) (.agg _ _ (qR y.2 fun j hj=>hb2 j (hrk j hj))) fun w κ bs sv=> ?_
 ·have:fP (nthW (bH bks x) i)=true:=by
   unfold sm at ho
   cases hq:nthW (bH bks x) i with
   |arr=>rfl
   |arrp=>
    exfalso
    have key:∀(bks:List BK) (x:tV bks) (i:Nat) E t l j row,nthW (bH bks x) i≠ .arrp E t l j row:=by
     intro bks
     induction bks with
     |nil=>intro x i E t l j row h;cases h
     |cons b l ih=>
      intro x i E t m j row h
      cases i with
      |zero=>cases b<;>cases h
      |succ i=>cases b<;>first|exact ih x.2 i _ _ _ _ _ h|exact ih x i _ _ _ _ _ h
    exact key _ _ _ _ _ _ _ _ hq
   |_=>rw[hq]at ho;cases ho
  unfold pQ
  rw[this]
  exact Nat.le_add_right _ _
 ·have:=hk i (by rw[dG]at hi;exact hi)
  rw[Nat.zero_add]at this;exact this
 ·have:=haf i (by rw[dG]at hi;exact hi)
  rw[Nat.zero_add]at this;exact this
 have hX:At (Ctx.yB Z.toSeat fn.ntmps w κ (bH bks x).length (pQ (bH bks x)) bs sv) Z E.nt:=⟨rfl,Nat.eq_of_beq_eq_true hn,fun p h=>Nat.le_of_ble_eq_true h⟩
 rw[←Eo _ _ hlen]
 refine fL (fX c hX (fun h=>by rw[hrf]at h;cases h) (g0:=fun _=>1) ⟨[],iy 0 bks x⟩ (iU bks 0 x) _ _ _ zh ⟨fun s hs=> ?_,⟨(fun p hp=>(nomatch hp)),fun q hq=> ?_⟩⟩ hr) ?_
 ·rw[hp,E1 bks 0 s x]at hs
  obtain⟨j,hj,rfl⟩:=hs
  show 0+look 0 (DK 0 (bH bks x)) _=1
  rw[Nat.zero_add]
  exact sA (f:=fun _=>1) DK (fun _=>rfl) (fun _ _ _=>rfl) (bH bks x) 0 j hinj (by rw[dG];exact hj)
 ·obtain⟨j,h1,h2,h3⟩:=pA bks x 0 q hq
  show look IOwn.none (DG 0 (bH bks x)) q.1=q.2
  rw[h2,h3]
  exact sA (f:=fun o=>o) DG (fun _=>rfl) (fun _ _ _=>rfl) (bH bks x) 0 j hinj (by rw[dG];exact h1)
 ·rintro e T ⟨h2,S,rfl,hi,hq⟩
  cases e with
  |normal=>exact fin h2 S hi hq hX
  |ret=>exact fin h2 S hi hq hX
  |exit i=>cases hq
  |_=>exact hq.elim
abbrev RQ(Z:Seat)(f:FuncId)(bks:List BK)(aks:List AK)(rk:List A0)(x:tV bks)(a:HG aks)(y:Bh bks)(z:Hm rk):Prop:=jg Z f (bH bks x).length (pQ (bH bks x)) (sm (bH bks x)) (tN (fE 0 bks) (ee bks y) (sm (bH bks x))) (I.ao zh (kD aks a)) ((I.agg (qb rk z)).bV zh)
def Lt(Z:Seat)(f:FuncId)(bks:List BK)(aks:List AK)(rk:List A0)(ka kb:List Nat)(F:tV bks→HG aks→Option (Bh bks×Hm rk))(hF:∀x a y z,F x a=some (y,z)→RQ Z f bks aks rk x a y z):ng Z where
 f:=f
 ka:=ka
 kb:=kb
 wr:=fE 0 bks
 app:=fun ls A k=>match kj bks ls,mL aks A with
  |some x,some a=>(F x a).bind (fun y=>k (ee bks y.1) (.agg (qb rk y.2)))
  |_,_=>none
 ok:=fun ls A k r h=>by
  split at h
  ·rename_i x a hx ha
   cases hy:F x a with
   |none=>rw[hy]at h;cases h
   |some y=>
    obtain⟨y,z⟩:=y
    rw[hy]at h
    exact⟨_,_,h,LI hx ha (hF x a y z hy)⟩
  ·cases h
end
end
end Go.Ab
namespace Go.Proofs.Plain04
open Go Go.Ab
open Go.Proofs.YtafnhieaeejlcaaDoor (av)
set_option linter.all false
set_option maxRecDepth 100000
noncomputable section
def Jb(x1:List Truck)(s:aK)(i:Int)(c_Length:Int)(c_Gap:Int)(c_Fails:Int)(kn_:Int→Int→Int→Int→Option ((aK×(List Truck)×Unit)×(Int×Int×Int×Unit))):Option ((aK×(List Truck)×Unit)×(Int×Int×Int×Unit)):=
 bif (decide (i<(x1.length:Int)))then
 aW (decide (0≤i)&&decide (i<(x1.length:Int)))<|
 aW (decide (i.toNat<x1.length))<|
 kn_ (bz (i+1)) c_Length (max c_Gap (bz (2*(x1.getD i.toNat ax).Pace.Hi))) c_Fails
 else
 (Below s 30).bind fun r=>
 (Of r.1 [0,r.2]).bind fun r2=>
 some ((r2.1,x1,()),(c_Length,(bz (c_Gap+r2.2)),c_Fails,()))
def Dm(it:It ((aK×(List Truck)×Unit)×(Int×Int×Int×Unit)))(s:aK)(x1:List Truck)(a1:Int)(a12:Int)(a13:Int):Option ((aK×(List Truck)×Unit)×(Int×Int×Int×Unit)):=
 it _ (fun(v_0:(Unit×Unit×Unit×Int×Unit)×((Int×Int×Int×Unit×Unit)×Unit)) kn=>Jb x1 s v_0.1.2.2.2.1 v_0.2.1.1 v_0.2.1.2.1 v_0.2.1.2.2.1 (fun y0 y1 y2 y3=>kn (((),(),(),y0,()),((y1,y2,y3,(),()),())))) (((),(),(),0,()),((a1,1,a13,(),()),()))
def Pw:dC av:=⟨⟨36,[],[xN,KI],[],[],[],[],[],[],[],[],[31],(O3 0 [.w .aK, .a 50 .Truck]),false⟩,[(3,⟨⟨[(0, .bx 0 0),(3, .bx 3 0),(4, .bx 4 0),(5, .v (.int .i64))],[(3,[.v (.int .i64), .v (.int .i64), .v (.int .i64), .osr 900000001])]⟩,[],[0,4,900000001],[]⟩)]⟩
theorem Q0(it:It ((aK×(List Truck)×Unit)×(Int×Int×Int×Unit)))(s:aK)(x1:List Truck)(a1:Int)(a12:Int)(a13:Int):Kb [.w .aK, .a 50 .Truck] (rk:=[.d (.int .i64), .d (.int .i64), .d (.int .i64), .o 1]) it (Pw) (bb Tryd.f69) Tryd.f69.results.toList (s,x1,()) (kD [.p 0, .g [.d (.int .i64), .d (.int .i64), .d (.int .i64), .o 1]] ((a1,a12,a13,()),()))=Dm it s x1 a1 a12 a13:=by kernel_rfl
def CC:(aK×(List Truck)×Unit)→((Int×Int×Int×Unit)×Unit)→Option ((aK×(List Truck)×Unit)×(Int×Int×Int×Unit)):=iR (fun x a=>Dm cS x.1 x.2.1 a.1.1 a.1.2.1 a.1.2.2.1)
theorem B6:CC=fun x a=>Dm cS x.1 x.2.1 a.1.1 a.1.2.1 a.1.2.2.1:=by unfold CC;rw[cd]
def QE:ng av.toSeat:=Lt av.toSeat 69 [.w .aK, .a 50 .Truck] [.p 0, .g [.d (.int .i64), .d (.int .i64), .d (.int .i64), .o 1]] [.d (.int .i64), .d (.int .i64), .d (.int .i64), .o 1] [1] [] CC (fun x a y z hx=>AE (Z:=av) (bks:=[.w .aK, .a 50 .Truck]) (aks:=[.p 0, .g [.d (.int .i64), .d (.int .i64), .d (.int .i64), .o 1]]) (rk:=[.d (.int .i64), .d (.int .i64), .d (.int .i64), .o 1]) (E:=Pw) (fn:=Tryd.f69) (c:=bb Tryd.f69) Tryd.func69 (by kernel_rfl) (by kernel_rfl) (by kernel_rfl) (by kernel_rfl) rfl rfl (by kernel_rfl) (by kernel_rfl) (by kernel_rfl) ((Q0 cS x.1 x.2.1 a.1.1 a.1.2.1 a.1.2.2.1).trans ((congrFun (congrFun B6 x) a).symm.trans hx)))
def zV(i:Int)(s_word:Int)(c_Length:Int)(c_Gap:Int)(c_Fails:Int)(c_Trucks:List Truck)(kn_:Int→Int→Int→Int→Int→(List Truck)→Option (aK×Convoy)):Option (aK×Convoy):=
 bif (decide (i>0))then
 (j3 (⟨s_word⟩:aK) c_Length 3).bind fun r4=>
 aW (gU (c_Trucks.length+([r4.2]:List Truck).length) 56)<|
 kn_ (bz (i-1)) r4.1.word c_Length c_Gap c_Fails (c_Trucks++([r4.2]:List Truck))
 else
 (CC ((⟨s_word⟩:aK),c_Trucks,()) ((c_Length,c_Gap,c_Fails,()),())).bind fun r5=>
 some (r5.1.1,(⟨r5.2.1,r5.2.2.1,r5.2.2.2.1,r5.1.2.1⟩:Convoy))
def qw(it:It (aK×Convoy))(s:aK)(most_:Int):Option (aK×Convoy):=
 (wj s 20 400).bind fun r=>
 (Below r.1 3).bind fun r2=>
 (Below r2.1 (bz (most_+1))).bind fun r3=>
 it _ (fun(v_0:(Unit×Unit×Unit×Int×Unit)×((Int×Unit)×(Int×Int×Int×(List Truck)×Unit)×Unit)) kn=>zV v_0.1.2.2.2.1 v_0.2.1.1 v_0.2.2.1.1 v_0.2.2.1.2.1 v_0.2.2.1.2.2.1 v_0.2.2.1.2.2.2.1 (fun y0 y1 y2 y3 y4 y5=>kn (((),(),(),y0,()),((y1,()),(y2,y3,y4,y5,()),())))) (((),(),(),r3.2,()),((r3.1.word,()),(r.2,0,r2.2,[],()),()))
def l9:aK→Int→Option (aK×Convoy):=iR (fun s most_=>qw cS s most_)
theorem rZ(s:aK)(most_:Int):l9 s most_=qw cS s most_:=by unfold l9;rw[cd]
def Qs:dC av:=⟨⟨32,[],[JP,xN,L1],[],[],[],[],[QE],[],[],[],[26],[0],true⟩,[(3,⟨⟨[(0, .bx 0 0),(4, .bx 4 0),(5, .bx 5 0),(6, .v (.int .i64))],[(0,[.v (.int .u64)]),(5,[.v (.int .i64), .v (.int .i64), .v (.int .i64), .os 27 50 .Truck])]⟩,[],[4],[]⟩)]⟩
theorem RG(it:It (aK×Convoy))(s:aK)(most_:Int):B1 (bt:= .aK) .Convoy [none,none,none,some (50, .Truck)] it Qs (bb Tryd.f25) Tryd.f25.results.toList (bO .aK s) (b6 [.int .i64] (most_,()))=qw it s most_:=by kernel_rfl
def Pq:ic av.toSeat:=Hn av.toSeat 25 .aK [.int .i64] .Convoy [none,none,none,some (50, .Truck)] (fun b a=>l9 b a.1) (fun b a y x hx os d hd h=>wM (Z:=av) (bt:= .aK) (ats:=[.int .i64]) (E:=Qs) (fn:=Tryd.f25) (c:=bb Tryd.f25) Tryd.func25 (by kernel_rfl) (by kernel_rfl) (by kernel_rfl) (by kernel_rfl) rfl ((RG cS b a.1).trans ((rZ b a.1).symm.trans hx)) hd h)
def iG(starts:List Int)(found:Bool)(r8:((List Int)×Span×Int))(kn_2:Bool→Int→(List Int)→Int→Option Bool)(n:Int)(best:Int)(which:List Int)(l:List Int)(rest:Int)(i2:Int)(x_Length:Int)(x_Gap:Int)(x_Fails:Int)(x_Trucks:List Truck)(kn_3:(List Int)→Int→Int→Int→Int→Int→(List Truck)→Option Bool):Option Bool:=
 bif (decide (i2≥0))then
 aW ((starts.length:Int) !=0)<|
 aW (decide (0≤i2)&&decide (i2<(l.length:Int)))<|
 aW (decide (i2.toNat<l.length))<|
 aW ((starts.length:Int) !=0)<|
 aW (decide (0≤i2)&&decide (i2<((l.set i2.toNat (rest.tmod (starts.length:Int))).length:Int)))<|
 aW (decide (i2.toNat<(l.set i2.toNat (rest.tmod (starts.length:Int))).length))<|
 aW (decide (0≤((l.set i2.toNat (rest.tmod (starts.length:Int))).getD i2.toNat 0))&&decide (((l.set i2.toNat (rest.tmod (starts.length:Int))).getD i2.toNat 0)<(starts.length:Int)))<|
 aW (decide (0≤i2)&&decide (i2<(x_Trucks.length:Int)))<|
 aW (decide (i2.toNat<x_Trucks.length))<|
 kn_3 (l.set i2.toNat (rest.tmod (starts.length:Int))) (bz (rest.tdiv (starts.length:Int))) (bz (i2-1)) x_Length x_Gap x_Fails (x_Trucks.set i2.toNat (⟨(x_Trucks.getD i2.toNat ax).Way,(starts.getD ((l.set i2.toNat (rest.tmod (starts.length:Int))).getD i2.toNat 0).toNat 0),(x_Trucks.getD i2.toNat ax).Pace,(x_Trucks.getD i2.toNat ax).Holds⟩:Truck))
 else
 (GI (⟨x_Length,x_Gap,x_Fails,x_Trucks⟩:Convoy)).bind fun r11=>
 (tk (⟨x_Length,x_Gap,x_Fails,x_Trucks⟩:Convoy)).bind fun r12=>
 bif (r11.2 !=0)then
 some false
 else
 bif (r12.2==7)then
 bif (!found)then
 bif (r8.2.2==0)then
 (AR l r8.1).bind fun r13=>
 bif r13 then
 bif (!(decide (r11.1.Lo=r8.2.1.Lo)&&(decide (r11.1.Hi=r8.2.1.Hi)&&true)))then
 some false
 else
 kn_2 true r11.1.Hi l (bz (n+1))
 else
 kn_2 true r11.1.Hi l (bz (n+1))
 else
 kn_2 true r11.1.Hi l (bz (n+1))
 else
 bif (decide (r11.1.Hi<best))then
 bif (r8.2.2==0)then
 (AR l r8.1).bind fun r14=>
 bif r14 then
 bif (!(decide (r11.1.Lo=r8.2.1.Lo)&&(decide (r11.1.Hi=r8.2.1.Hi)&&true)))then
 some false
 else
 kn_2 true r11.1.Hi l (bz (n+1))
 else
 kn_2 true r11.1.Hi l (bz (n+1))
 else
 kn_2 true r11.1.Hi l (bz (n+1))
 else
 kn_2 found best which (bz (n+1))
 else
 kn_2 found best which (bz (n+1))
def fS(it:It Bool)(r2:(aK×Convoy))(r3:(aK×Truck))(starts:List Int)(c_Length:Int)(c_Gap:Int)(c_Fails:Int)(r8:((List Int)×Span×Int))(found:Bool)(best:Int)(which:List Int)(n:Int)(kn_2:Bool→Int→(List Int)→Int→Option Bool):Option Bool:=
 (many ((r2.2.Trucks++([r3.2]:List Truck)).length:Int) (starts.length:Int)).bind fun r9=>
 bif (decide (n<r9))then
 (kO (⟨c_Length,c_Gap,c_Fails,(r2.2.Trucks++([r3.2]:List Truck))⟩:Convoy)).bind fun r10=>
 aW (Bz (r10.Trucks.length:Int) 8)<|
 it _ (fun(v_0:(Unit×Unit×Unit×Unit×(List Int)×Int×Int×Unit)×((Int×Int×Int×(List Truck)×Unit)×Unit)) kn=>iG starts found r8 kn_2 n best which v_0.1.2.2.2.2.1 v_0.1.2.2.2.2.2.1 v_0.1.2.2.2.2.2.2.1 v_0.2.1.1 v_0.2.1.2.1 v_0.2.1.2.2.1 v_0.2.1.2.2.2.1 (fun y0 y1 y2 y3 y4 y5 y6=>kn (((),(),(),(),y0,y1,y2,()),((y3,y4,y5,y6,()),())))) (((),(),(),(),(List.replicate (r10.Trucks.length:Int).toNat (0:Int)),n,(bz (((List.replicate (r10.Trucks.length:Int).toNat (0:Int)).length:Int)-1)),()),((r10.Length,r10.Gap,r10.Fails,r10.Trucks,()),()))
 else
 bif (found==(r8.2.2==0))then
 (AR which r8.1).bind fun r15=>
 bif r15 then
 bif (!found)then
 (sP).bind fun r16=>
 some r16
 else
 bif (r8.2.1.Hi==best)then
 (sP).bind fun r17=>
 some r17
 else
 some false
 else
 some false
 else
 some false
def xI(it:It Bool)(r2:(aK×Convoy))(r3:(aK×Truck))(starts:List Int)(i:Int)(x23_word:Int)(c_Length:Int)(c_Gap:Int)(c_Fails:Int)(kn_:(List Int)→Int→Int→Int→Int→Int→Option Bool):Option Bool:=
 bif (decide (i>0))then
 (Below (⟨x23_word⟩:aK) 100).bind fun r5=>
 (Below r5.1 250).bind fun r6=>
 (Of r6.1 [0,r5.2,r6.2]).bind fun r7=>
 aW (gU (starts.length+[r7.2].length) 8)<|
 kn_ (starts++[r7.2]) (bz (i-1)) r7.1.word c_Length c_Gap c_Fails
 else
 (kK (⟨c_Length,c_Gap,c_Fails,(r2.2.Trucks++([r3.2]:List Truck))⟩:Convoy) starts).bind fun r8=>
 bif (r8.2.2 !=0)then
 bif (r8.2.2 !=7)then
 some false
 else
 bif (r8.2.2==0)then
 bif ((r8.1.length:Int) !=((r2.2.Trucks++([r3.2]:List Truck)).length:Int))then
 some false
 else
 it _ (fun(v_0:(Unit×Unit×Bool×Int×(List Int)×Int×Unit)×(Unit)) kn=>fS it r2 r3 starts c_Length c_Gap c_Fails r8 v_0.1.2.2.1 v_0.1.2.2.2.1 v_0.1.2.2.2.2.1 v_0.1.2.2.2.2.2.1 (fun y0 y1 y2 y3=>kn (((),(),y0,y1,y2,y3,()),(())))) (((),(),false,0,([]:List Int),0,()),(()))
 else
 it _ (fun(v_0:(Unit×Unit×Bool×Int×(List Int)×Int×Unit)×(Unit)) kn=>fS it r2 r3 starts c_Length c_Gap c_Fails r8 v_0.1.2.2.1 v_0.1.2.2.2.1 v_0.1.2.2.2.2.1 v_0.1.2.2.2.2.2.1 (fun y0 y1 y2 y3=>kn (((),(),y0,y1,y2,y3,()),(())))) (((),(),false,0,([]:List Int),0,()),(()))
 else
 bif (r8.2.2==0)then
 bif ((r8.1.length:Int) !=((r2.2.Trucks++([r3.2]:List Truck)).length:Int))then
 some false
 else
 it _ (fun(v_0:(Unit×Unit×Bool×Int×(List Int)×Int×Unit)×(Unit)) kn=>fS it r2 r3 starts c_Length c_Gap c_Fails r8 v_0.1.2.2.1 v_0.1.2.2.2.1 v_0.1.2.2.2.2.1 v_0.1.2.2.2.2.2.1 (fun y0 y1 y2 y3=>kn (((),(),y0,y1,y2,y3,()),(())))) (((),(),false,0,([]:List Int),0,()),(()))
 else
 it _ (fun(v_0:(Unit×Unit×Bool×Int×(List Int)×Int×Unit)×(Unit)) kn=>fS it r2 r3 starts c_Length c_Gap c_Fails r8 v_0.1.2.2.1 v_0.1.2.2.2.1 v_0.1.2.2.2.2.1 v_0.1.2.2.2.2.2.1 (fun y0 y1 y2 y3=>kn (((),(),y0,y1,y2,y3,()),(())))) (((),(),false,0,([]:List Int),0,()),(()))
def jz(it:It Bool)(nums:List Int):Option Bool:=
 (pE nums).bind fun r=>
 (l9 r 2).bind fun r2=>
 (j3 r2.1 r2.2.Length 1).bind fun r3=>
 aW (gU (r2.2.Trucks.length+([r3.2]:List Truck).length) 56)<|
 (wj r3.1 1 3).bind fun r4=>
 it _ (fun(v_0:(Unit×Unit×(List Int)×Int×Unit)×((Int×Unit)×(Int×Int×Int×Unit×Unit)×Unit)) kn=>xI it r2 r3 v_0.1.2.2.1 v_0.1.2.2.2.1 v_0.2.1.1 v_0.2.2.1.1 v_0.2.2.1.2.1 v_0.2.2.1.2.2.1 (fun y0 y1 y2 y3 y4 y5=>kn (((),(),y0,y1,()),((y2,()),(y3,y4,y5,(),()),())))) (((),(),([]:List Int),r4.2,()),((r4.1.word,()),(r2.2.Length,(max r2.2.Gap 70),r2.2.Fails,(),()),()))
def kv:(List Int)→Option Bool:=iR (fun nums=>jz cS nums)
theorem qs(nums:List Int):kv nums=jz cS nums:=by unfold kv;rw[cd]
def SM:dC av:=⟨⟨188,[RX,RM,TD,R9,RV,SQ],[L1,JP,xN,KI],[QH],[Q7],[],[],[],[],[],[Pq],[32,51,53],[],true⟩,[(7,⟨⟨[(3, .bx 23 0),(4, .bx 4 0),(5, .os 5 3 (.int .i64)),(6, .v (.int .i64))],[(23,[.v (.int .u64)]),(4,[.v (.int .i64), .v (.int .i64), .v (.int .i64), .osr 25])]⟩,[],[25],[]⟩),(16,⟨⟨[(4, .bx 4 0),(8, .bx 8 0),(10, .v .bool),(11, .v (.int .i64)),(12, .os 12 3 (.int .i64)),(13, .v (.int .i64))],[]⟩,[5,7,9],[4,8],[]⟩),(22,⟨⟨[(4, .bx 4 0),(8, .bx 8 0),(12, .osr 12),(14, .bx 14 0),(15, .os 95 3 (.int .i64)),(16, .v (.int .i64)),(17, .v (.int .i64))],[(14,[.v (.int .i64), .v (.int .i64), .v (.int .i64), .os 91 50 .Truck])]⟩,[10,11,13],[12],[]⟩)]⟩
theorem Tm(it:It Bool)(nums:List Int):fW (ts:=[.bool]) it SM (bb Tryd.f17) Tryd.f17.results.toList (b6 [.sl (.int .i64)] (nums,()))=jz it nums:=by kernel_rfl
end
end Go.Proofs.Plain04
namespace Go.Proofs.Plain04
open Go
open Go.Ab hiding atP
open Go.Proofs.YtafnhieaeejlcaaDoor (ai bD fg lY iX uu jw cz)
set_option linter.all false
theorem Dn(s:aK){len gap fails most:Int}{ts:List Truck}(hm:most≤1000)(l1:20≤len)(l2:len≤400)(f1:0≤fails)(f2:fails≤2)(n:(ts.length:Int)≤most)(ht:∀t∈ts,sb len 3 t):Ok (fun r=>ME most ⟨r.2.1,r.2.2.1,r.2.2.2.1,r.1.2.1⟩) (CC (s,ts,()) ((len,gap,fails,()),())):=by
 rw[B6]
 refine Ok.rounds (fun v=>v.2.1.1=len∧v.2.1.2.2.1=fails∧0≤v.1.2.2.2.1∧v.1.2.2.2.1≤ts.length∧1≤v.2.1.2.1∧v.2.1.2.1≤64∧∀j,j<v.1.2.2.2.1.toNat→2*(ts.getD j ax).Pace.Hi≤v.2.1.2.1) (fun v=>((ts.length:Int)-v.1.2.2.2.1).toNat) ?_ ?_ ?_
 ·show((ts.length:Int)-0).toNat<18446744073709551616
  omega
 ·simp
 ·rintro ⟨⟨_,_,_,i,_⟩,⟨ln,gp,fl,_⟩,_⟩ kn hi' hk
  simp only at hi'⊢
  obtain⟨rfl,rfl,h1,h2,h3,h4,h5⟩:=hi'
  refine Ok.ite (fun hlt=> ?_) fun hge=> ?_
  ·simp only[decide_eq_true_eq]at hlt
   have e:bz (i+1)=i+1:=aY (by omega) (by omega)
   have hm:=ht _ (oI (d:=ax) (show i.toNat<ts.length by omega))
   have e2:bz (2*(ts.getD i.toNat ax).Pace.Hi)=2*(ts.getD i.toNat ax).Pace.Hi:=by
    have:=hm.p1;have:=hm.p2;have:=hm.p3
    exact aY (by omega) (by omega)
   refine Ok.aW (ib h1 hlt) (Ok.aW (by simp;omega) (hk _ ?_ ?_))
   ·simp only[e,e2]
    have:=hm.p3
    refine⟨trivial,trivial,by omega,by omega,by omega,by omega,fun j hj=> ?_⟩
    by_cases hl:j<i.toNat
    ·have:=h5 j hl;omega
    ·obtain rfl:j=i.toNat:=by omega
     omega
   ·simp only[e];omega
  ·simp only[decide_eq_false_iff_not]at hge
   refine Ok.bind (cT _ (by omega)) fun r hr=>Ok.bind (vY _ (by simp) (by simp)) fun r2 hr2=>Ok.some ?_
   simp only[List.mem_cons,List.not_mem_nil,or_false]at hr2
   have e3:bz (gp+r2.2)=gp+r2.2:=aY (by omega) (by omega)
   rw[e3]
   refine⟨l1,l2,by show 1≤gp+r2.2;omega,by show gp+r2.2≤100;omega,f1,f2,n,ht,fun t htm=> ?_⟩
   obtain⟨k,hk2,rfl⟩:=List.mem_iff_getElem.1 htm
   have hk3:k<ts.length:=hk2
   have:=h5 k (by omega)
   rw[List.getD_eq_getElem?_getD,List.getElem?_eq_getElem hk3]at this
   simp only[Option.getD_some]at this
   show 2*(ts[k]).Pace.Hi≤gp+r2.2
   omega
theorem v9(s:aK){most:Int}(h0:0≤most)(h1:most≤20):Ok (fun r=>ME most r.2) (l9 s most):=by
 rw[rZ]
 refine Ok.bind (jm s (by omega) (by omega) (by omega) (by omega)) fun r hr=> ?_
 refine Ok.bind (cT _ (by omega)) fun r2 hr2=> ?_
 refine Ok.bind (cT _ (by rw[aY (by omega) (by omega)];omega)) fun r3 hr3=> ?_
 rw[aY (n:=most+1) (by omega) (by omega)]at hr3
 refine Ok.rounds (fun v=>0≤v.1.2.2.2.1∧v.1.2.2.2.1≤most∧(v.2.2.1.2.2.2.1.length:Int)+v.1.2.2.2.1≤most∧(∀t∈v.2.2.1.2.2.2.1,sb r.2 3 t)∧v.2.2.1.1=r.2∧v.2.2.1.2.2.1=r2.2) (fun v=>v.1.2.2.2.1.toNat) ?_ ?_ ?_
 ·show r3.2.toNat<18446744073709551616
  omega
 ·simp;omega
 ·rintro ⟨⟨_,_,_,i,_⟩,⟨w,_⟩,⟨len,gap,fails,ts,_⟩,_⟩ kn hi' hk
  simp only at hi'⊢
  obtain⟨a1,a2,a3,a4,rfl,rfl⟩:=hi'
  have e:bz (i-1)=i-1:=aY (by omega) (by omega)
  refine Ok.ite (fun hlt=> ?_) fun _=> ?_
  ·simp only[decide_eq_true_eq]at hlt
   refine Ok.bind (rJ _ (length:=r.2) (by omega) (by omega) (by omega) (by omega)) fun r4 hr4=> ?_
   refine Ok.aW (eY (by simp;omega) (by simp)) (hk _ ?_ ?_)
   ·simp only[e,List.length_append,List.length_singleton]
    refine⟨by omega,by omega,by push_cast;omega,fun t ht=> ?_,trivial,trivial⟩
    rcases List.mem_append.1 ht with ht|ht
    ·exact a4 t ht
    ·simp only[List.mem_singleton]at ht;subst ht;exact hr4
   ·simp[e];omega
  ·exact Ok.bind (Dn _ (most:=most) (by omega) (by omega) (by omega) (by omega) (by omega) (by omega) a4) fun r5 hr5=>Ok.some hr5
theorem Lz{m K:Nat}(hm:m≤5)(hK:K≤6):Ok (fun r=>r=((K^m:Nat):Int)) (many (m:Int) (K:Int)):=by
 rw[Gu]
 refine Ok.rounds (fun v=>∃k:Nat,k≤m∧v.1.2.1=(k:Int)∧v.1.1=((K^k:Nat):Int)) (fun v=>((m:Int)-v.1.2.1).toNat) ?_ ?_ ?_
 ·show((m:Int)-0).toNat<18446744073709551616
  omega
 ·exact⟨0,Nat.zero_le _,rfl,by simp⟩
 rintro ⟨⟨n,i,_⟩,_⟩ kn ⟨k,h1,h2,h3⟩ hk
 simp only at h2 h3⊢
 subst h2 h3
 refine Ok.ite (fun hlt=>hk _ ?_ ?_) fun hge=>Ok.some ?_
 ·have hlt:=of_decide_eq_true hlt
  have e:bz ((k:Int)+1)=((k+1:Nat):Int):=by rw[aY (by omega) (by omega)];push_cast;rfl
  have b1:K^(k+1)≤6^(k+1):=Nat.pow_le_pow_left hK _
  have b2:6^(k+1)≤6^5:=Nat.pow_le_pow_right (by omega) (by omega)
  have b3:(6:Nat)^5=7776:=rfl
  refine⟨k+1,by omega,e, ?_⟩
  have e2:((K^k:Nat):Int)*(K:Int)=((K^(k+1):Nat):Int):=by rw[Nat.pow_succ];push_cast;rfl
  show bz (((K^k:Nat):Int)*(K:Int))=_
  rw[e2]
  exact aY (by omega) (by omega)
 ·have hlt:=of_decide_eq_true hlt
  simp only[aY (n:=(k:Int)+1) (by omega) (by omega)];omega
 ·have hge:=of_decide_eq_false hge
  have:k=m:=by omega
  rw[this]
theorem digit{a b K:Nat}(h:b<K):Int.tmod ((a*K+b:Nat):Int) (K:Int)=b∧Int.tdiv ((a*K+b:Nat):Int) (K:Int)=a:=by
 have e1:(a*K+b)%K=b:=by rw[Nat.mul_comm,Nat.mul_add_mod,Nat.mod_eq_of_lt h]
 have e2:(a*K+b)/K=a:=by rw[Nat.mul_comm,Nat.mul_add_div (by omega),Nat.div_eq_of_lt h,Nat.add_zero]
 constructor
 ·show(((a*K+b)%K:Nat):Int)=_
  rw[e1]
 ·show(((a*K+b)/K:Nat):Int)=_
  rw[e2]
theorem Gl{K:Int}{l:List Int}:∀{n},nx K l n=none→∀i,i<n→¬l.getD i 0+1<K
 |n+1,h,i,hi=>by
  simp only[nx]at h
  split at h
  ·cases h
  ·rename_i q
   by_cases e:i=n
   ·rw[e];exact q
   ·exact Gl h i (by omega)
theorem MA{K:Nat}{f:Nat→Int}:∀{n},(∀i,i<n→f i+1=K)→1≤K→V K f n+1=K^n
 |0,_,_=>by simp[V]
 |n+1,h,hK=>by
  have ih:=MA (K:=K) (f:=f) (n:=n) (fun i hi=>h i (by omega)) hK
  have h2:=h n (by omega)
  simp only[V,Nat.pow_succ]
  rw[←ih,Nat.succ_mul]
  omega
theorem M9{c:Convoy}{starts l:List Int}(h:pR c starts l)(hk:1≤starts.length)(hn:ox starts.length l=none):vL starts.length l+1=starts.length^l.length:=by
 refine MA (fun i hi=> ?_) hk
 have:=h.b i hi
 have:=Gl hn i hi
 omega
theorem LQ{a b:List Int}(hl:a.length≤1000000):Ok (fun r=>r=true→a=b) (AR a b):=by
 rw[Ap]
 refine Ok.ite (fun _=>Ok.some (fun h=>by cases h)) fun hn=> ?_
 have hn:a.length=b.length:=by
  have:(a.length:Int)=b.length:=by simpa using hn
  omega
 refine Ok.rounds (fun v=>∃k:Nat,k≤a.length∧v.1.1=(k:Int)∧∀j,j<k→a.getD j 0=b.getD j 0) (fun v=>((a.length:Int)-v.1.1).toNat) ?_ ?_ ?_
 ·show((a.length:Int)-0).toNat<18446744073709551616
  omega
 ·exact⟨0,Nat.zero_le _,rfl,fun j hj=>by omega⟩
 ·rintro ⟨⟨i,_⟩,_⟩ kn ⟨k,h1,h2,h3⟩ hk
  simp only at h2⊢
  subst h2
  have e:bz ((k:Int)+1)=((k+1:Nat):Int):=by rw[aY (by omega) (by omega)];push_cast;rfl
  refine Ok.ite (fun hlt=> ?_) fun hge=>Ok.some fun _=> ?_
  ·have hlt:=of_decide_eq_true hlt
   refine Ok.aW (ib (by omega) hlt) (Ok.aW (ib (by omega) (by omega)) (Ok.ite (fun _=>Ok.some (fun h=>by cases h)) fun hq=>hk _ ⟨k+1,by omega,e,fun j hj=> ?_⟩ ?_))
   ·by_cases ej:j=k
    ·subst ej;simpa using hq
    ·exact h3 j (by omega)
   ·simp only[e];omega
  ·have hge:=of_decide_eq_false hge
   rw[kl (l:=a) 0,kl (l:=b) 0,←hn]
   exact ia fun i hi=>h3 i (by omega)
section
variable {c:Convoy} {starts:List Int} (h:xw c starts)
include h
theorem IX{P:Bool→Prop}{L:List Int}{n:Nat}(hl:pR c starts L)(hv:vL starts.length L=n){found:Bool}{r8:(List Int)×Span×Int}{kn2:Bool→Int→(List Int)→Int→Option Bool}{n0 best:Int}{which:List Int}
 (hend:∀kn3,Ok P (iG starts found r8 kn2 n0 best which L 0 (-1) c.Length c.Gap c.Fails (nD c starts L).Trucks kn3)){i0:Int}(hi0:i0=(c.Trucks.length:Int)-1){l0:List Int}(hl0:l0=(List.range c.Trucks.length).map fun _=>(0:Int)):
 Ok P (cS _ (fun(v_0:(Unit×Unit×Unit×Unit×(List Int)×Int×Int×Unit)×((Int×Int×Int×(List Truck)×Unit)×Unit)) kn=>iG starts found r8 kn2 n0 best which v_0.1.2.2.2.2.1 v_0.1.2.2.2.2.2.1 v_0.1.2.2.2.2.2.2.1 v_0.2.1.1 v_0.2.1.2.1 v_0.2.1.2.2.1 v_0.2.1.2.2.2.1 (fun y0 y1 y2 y3 y4 y5 y6=>kn (((),(),(),(),y0,y1,y2,()),((y3,y4,y5,y6,()),())))) (((),(),(),(),l0,(n:Int),i0,()),((c.Length,c.Gap,c.Fails,c.Trucks,()),()))):=by
 subst hi0 hl0
 have hc:=h.n1
 have hK:=h.k1
 have hlen:=hl.n
 have hvb:=Mp hl h.n1 h.k1
 refine Ok.rounds (fun v=>∃k:Nat,k≤c.Trucks.length∧v.1.2.2.2.2.2.2.1=(k:Int)-1∧v.1.2.2.2.2.1=((List.range c.Trucks.length).map fun j=>if j<k then(0:Int)else L.getD j 0)∧v.1.2.2.2.2.2.1=((V starts.length (fun j=>L.getD j 0) k:Nat):Int)∧
  v.2.1.1=c.Length∧v.2.1.2.1=c.Gap∧v.2.1.2.2.1=c.Fails∧v.2.1.2.2.2.1=((List.range c.Trucks.length).map fun j=>if j<k then c.Trucks.getD j ax else x4 c starts L j)∧V starts.length (fun j=>L.getD j 0) k≤n) (fun v=>(v.1.2.2.2.2.2.2.1+1).toNat) ?_ ?_ ?_
 ·show((c.Trucks.length:Int)-1+1).toNat<18446744073709551616
  omega
 ·refine⟨c.Trucks.length,Nat.le_refl _,rfl, ?_, ?_,rfl,rfl,rfl, ?_, ?_⟩
  ·exact ia fun j hj=>by rw[if_pos hj]
  ·show(n:Int)=_
   rw[←hv,←hlen];rfl
  ·show c.Trucks=_
   rw[kl (l:=c.Trucks) ax]
   simp only[ez]
   exact ia fun j hj=>by rw[if_pos hj,dM _ _ hj]
  ·rw[←hv,←hlen];exact Nat.le_refl _
 rintro ⟨⟨_,_,_,_,l,rest,i,_⟩,⟨q1,q2,q3,ts,_⟩,_⟩ kn ⟨k,k1,k2,k3,k4,k5,k6,k7,k8,k9⟩ hk
 simp only at k2 k3 k4 k5 k6 k7 k8⊢
 subst k2 k3 k4 k5 k6 k7 k8
 cases k with
 |zero=>
  have e1:((List.range c.Trucks.length).map fun j=>if j<0 then(0:Int)else L.getD j 0)=L:=by
   rw[kl (l:=L) 0,hlen]
   exact ia fun j hj=>by rw[if_neg (by omega),dM _ _ hj]
  have e2:((List.range c.Trucks.length).map fun j=>if j<0 then c.Trucks.getD j ax else x4 c starts L j)=(nD c starts L).Trucks:=ia fun j hj=>by rw[if_neg (by omega)]
  rw[e1,e2]
  exact hend _
 |succ k=>
  have hb:=hl.b k (by omega)
  have eV:V starts.length (fun j=>L.getD j 0) (k+1)=V starts.length (fun j=>L.getD j 0) k*starts.length+(L.getD k 0).toNat:=rfl
  obtain⟨d1,d2⟩:=digit (a:=V starts.length (fun j=>L.getD j 0) k) (b:=(L.getD k 0).toNat) (K:=starts.length) (by omega)
  rw[←eV]at d1 d2
  have hd:(((L.getD k 0).toNat:Nat):Int)=L.getD k 0:=by omega
  rw[hd]at d1
  have hVk:V starts.length (fun j=>L.getD j 0) k≤V starts.length (fun j=>L.getD j 0) (k+1):=by
   rw[eV]
   have:=Nat.le_mul_of_pos_right (V starts.length (fun j=>L.getD j 0) k) (show 0<starts.length by omega)
   omega
  have ei:((k+1:Nat):Int)-1=(k:Int):=by push_cast;omega
  rw[ei]
  have hne:((starts.length:Int) !=0)=true:=by have:=h.k0;exact bne_iff_ne.2 (by omega)
  have e3:bz ((V starts.length (fun j=>L.getD j 0) k:Nat):Int)=((V starts.length (fun j=>L.getD j 0) k:Nat):Int):=aY (by omega) (by omega)
  have e4:bz ((k:Int)-1)=(k:Int)-1:=aY (by omega) (by omega)
  have hset:((List.range c.Trucks.length).map fun j=>if j<k+1 then(0:Int)else L.getD j 0).set k (L.getD k 0)=(List.range c.Trucks.length).map fun j=>if j<k then(0:Int)else L.getD j 0:=
   pg (by rw[if_neg (by omega)]) fun j hj=>by
    by_cases hjk:j<k
    ·rw[if_pos hjk,if_pos (by omega)]
    ·rw[if_neg hjk,if_neg (by omega)]
  refine Ok.yes (by simp) ?_
  simp only[Int.toNat_natCast,d1,d2,hset]
  have hg:((List.range c.Trucks.length).map fun j=>if j<k then(0:Int)else L.getD j 0).getD k 0=L.getD k 0:=by rw[dM _ _ (by omega),if_neg (by omega)]
  have hg2:((List.range c.Trucks.length).map fun j=>if j<k+1 then c.Trucks.getD j ax else x4 c starts L j).getD k ax=c.Trucks.getD k ax:=by rw[dM _ _ (by omega),if_pos (by omega)]
  simp only[hg,hg2,ez,e3,e4]
  refine Ok.aW hne (Ok.aW (ib (by omega) (by omega)) (Ok.aW (by simp;omega) (Ok.aW hne (Ok.aW (ib (by omega) (by omega)) (Ok.aW (by simp;omega) (Ok.aW (by simp;exact hb) (Ok.aW (ib (by omega) (by omega)) (Ok.aW (by simp;omega) (hk _ ⟨k,by omega,rfl,rfl,rfl,rfl,rfl,rfl, ?_,by omega⟩ ?_)))))))))
  ·show List.set _ _ _=_
   refine pg ?_ fun j hj=> ?_
   ·rw[if_neg (by omega)];rfl
   ·by_cases hjk:j<k
    ·rw[if_pos hjk,if_pos (by omega)]
    ·rw[if_neg hjk,if_neg (by omega)]
  ·show((k:Int)-1+1).toNat<(((k+1:Nat):Int)-1+1).toNat
   omega
end
end Go.Proofs.Plain04
namespace Go.Proofs.Plain04
open Go
open Go.Ab hiding atP
open Go.Proofs.YtafnhieaeejlcaaDoor (ai bD fg lY iX uu jw cz)
set_option linter.all false
section
variable {c:Convoy} {starts b:List Int} (h:xw c starts)
include h
theorem K9{L:List Int}(hl:pR c starts L):GI (nD c starts L)=some (nS (iX (oC (nD c starts L))),0):=by
 have hv:=pc h.v h.s hl
 rw[Gr,if_pos hv,hv,uu (fg hv)]
theorem GJ{P:Bool→Prop}{L which:List Int}(hl:pR c starts L){found:Bool}{kn2:Bool→Int→(List Int)→Int→Option Bool}{n best:Int}(hf:found=true↔which≠[])(hw:which=[]∨best=HI c starts which)
 (hk:∀(f:Bool) (x:Int) (w:List Int),(f=true↔w≠[])→(w=[]∨x=HI c starts w)→w=gr c starts which L→Ok P (kn2 f x w (bz (n+1)))){kn3:(List Int)→Int→Int→Int→Int→Int→(List Truck)→Option Bool}:
 Ok P (iG starts found (ky c starts b) kn2 n best which L 0 (-1) c.Length c.Gap c.Fails (nD c starts L).Trucks kn3):=by
 have hv:=pc h.v h.s hl
 have hne:=HY h hl
 have hi:=Jd c starts L
 refine Ok.no (by decide) (Ok.beq (K9 h hl) (Ok.beq (tv _) (Ok.no rfl (Ok.ite (fun hq=> ?_) fun hq=> ?_))))
 ·have hacc:AW c starts L c.Trucks.length:=(Fm h.v h.s hl).1 (Ck (by have hq:((ll (nD c starts L)).2==7)=true:=hq;simpa using hq))
  have hoff:((ky c starts b).2.2==0)=true→L=(ky c starts b).1→nS (iX (oC (nD c starts L)))=(ky c starts b).2.1:=fun h0 h1=>by
   unfold ky at h0 h1⊢
   split at h0
   ·cases h0
   ·rename_i hb
    rw[if_neg hb]at h1⊢
    rw[h1]
  have go:∀{x:Option Bool},(gr c starts which L=L)→x=kn2 true (nS (iX (oC (nD c starts L)))).Hi L (bz (n+1))→Ok P (bif (ky c starts b).2.2==0 then(AR L (ky c starts b).1).bind fun r=>bif r then bif (!(decide ((nS (iX (oC (nD c starts L)))).Lo=(ky c starts b).2.1.Lo)&&(decide ((nS (iX (oC (nD c starts L)))).Hi=(ky c starts b).2.1.Hi)&&true)))then some false else x else x else x):=fun{x} hst hx=>by
   have hx:Ok P x:=by
    rw[hx]
    exact hk _ _ _ ⟨fun _=>hne,fun _=>rfl⟩ (.inr hi) hst.symm
   refine Ok.ite (fun h0=>Ok.bind (LQ (by have:=hl.n;have:=h.n1;omega)) fun r hr=>Ok.ite (fun hr2=>Ok.no ?_ hx) fun _=>hx) fun _=>hx
   have:=hoff h0 (hr hr2)
   rw[this]
   simp
  refine Ok.ite (fun hfo=> ?_) fun hfo=> ?_
  ·have hw0:which=[]:=by
    cases hfn:found with
    |true=>rw[hfn]at hfo;cases hfo
    |false=>
     rw[hfn]at hf
     exact Classical.byContradiction fun hn=>by have:=hf.2 hn;cases this
   refine go ?_ rfl
   unfold gr;rw[if_pos ⟨.inl hw0,hacc⟩]
  ·have hft:found=true:=by simpa using hfo
   have hb:=hw.resolve_left (hf.1 hft)
   refine Ok.ite (fun hlt=>go ?_ rfl) fun hge=> ?_
   ·have hlt:=of_decide_eq_true hlt
    rw[hb]at hlt
    have hlt:(nS (iX (oC (nD c starts L)))).Hi<HI c starts which:=hlt
    rw[hi]at hlt
    unfold gr;rw[if_pos ⟨.inr hlt,hacc⟩]
   ·have hge:=of_decide_eq_false hge
    rw[hb]at hge
    have hge:¬(nS (iX (oC (nD c starts L)))).Hi<HI c starts which:=hge
    rw[hi]at hge
    refine hk _ _ _ hf hw ?_
    unfold gr
    rw[if_neg]
    rintro ⟨h1|h1,_⟩
    ·exact hf.1 hft h1
    ·exact hge h1
 ·refine hk _ _ _ hf hw ?_
  unfold gr
  rw[if_neg]
  rintro ⟨_,h1⟩
  have:=Hj ((Fm h.v h.s hl).2 h1)
  have hq:¬(ll (nD c starts L)).2=7:=by have hq:((ll (nD c starts L)).2==7)=false:=hq;simpa using hq
  exact hq this
theorem Ja{r2:aK×Convoy}{r3:aK×Truck}(hc:c=⟨c.Length,c.Gap,c.Fails,r2.2.Trucks++[r3.2]⟩)(hfit:kG c=true)(hb:xW c starts [] (lh c.Trucks.length) b):
 Ok (fun r=>r=true) (cS _ (fun(v_0:(Unit×Unit×Bool×Int×(List Int)×Int×Unit)×(Unit)) kn=>fS cS r2 r3 starts c.Length c.Gap c.Fails (ky c starts b) v_0.1.2.2.1 v_0.1.2.2.2.1 v_0.1.2.2.2.2.1 v_0.1.2.2.2.2.2.1 (fun y0 y1 y2 y3=>kn (((),(),y0,y1,y2,y3,()),(())))) (((),(),false,0,([]:List Int),0,()),(()))):=by
 have hT:r2.2.Trucks++[r3.2]=c.Trucks:=by conv=>rhs;rw[hc]
 have hz:=tz (c:=c) h.k0
 refine Ok.rounds (fun v=>∃n:Nat,v.1.2.2.2.2.2.1=(n:Int)∧(v.1.2.2.1=true↔v.1.2.2.2.2.1≠[])∧(v.1.2.2.2.2.1=[]∨v.1.2.2.2.1=HI c starts v.1.2.2.2.2.1)∧
  ((∃L,pR c starts L∧vL starts.length L=n∧xW c starts v.1.2.2.2.2.1 L b)∨(n=starts.length^c.Trucks.length∧v.1.2.2.2.2.1=b))) (fun v=>((starts.length^c.Trucks.length:Nat)-v.1.2.2.2.2.2.1).toNat) ?_ ?_ ?_
 ·show(((starts.length^c.Trucks.length:Nat):Int)-0).toNat<18446744073709551616
  have b1:starts.length^c.Trucks.length≤6^c.Trucks.length:=Nat.pow_le_pow_left h.k1 _
  have b2:6^c.Trucks.length≤6^5:=Nat.pow_le_pow_right (by omega) h.n1
  have b3:(6:Nat)^5=7776:=rfl
  omega
 ·refine⟨0,rfl,by simp, .inl rfl, .inl ⟨lh c.Trucks.length,hz, ?_,hb⟩⟩
  unfold vL
  have:∀n,V starts.length (fun j=>(lh c.Trucks.length).getD j 0) n=0:=fun n=>by
   induction n with
   |zero=>rfl
   |succ n ih=>
    simp only[V,ih]
    have:(lh c.Trucks.length).getD n 0=0:=by
     unfold lh
     rw[List.getD_eq_getElem?_getD,List.getElem?_replicate]
     split<;>rfl
    rw[this];simp
  exact this _
 rintro ⟨⟨_,_,found,best,which,n,_⟩,_⟩ kn ⟨k,k1,k2,k3,k4⟩ hk
 simp only at k1 k2 k3 k4⊢
 subst k1
 show Ok _ ((many ((r2.2.Trucks++[r3.2]).length:Int) (starts.length:Int)).bind _)
 rw[hT]
 refine Ok.bind (Lz h.n1 h.k1) fun r9 hr9=> ?_
 subst hr9
 refine Ok.ite (fun hlt=> ?_) fun hge=> ?_
 ·have hlt:=of_decide_eq_true hlt
  have hlt:k<starts.length^c.Trucks.length:=by omega
  have hKb:starts.length^c.Trucks.length≤7776:=by
   have b1:starts.length^c.Trucks.length≤6^c.Trucks.length:=Nat.pow_le_pow_left h.k1 _
   have b2:6^c.Trucks.length≤6^5:=Nat.pow_le_pow_right (by omega) h.n1
   have b3:(6:Nat)^5=7776:=rfl
   omega
  rcases k4 with⟨L,l1,l2,l3⟩|⟨l1,l2⟩
  ·have e:bz ((k:Int)+1)=((k+1:Nat):Int):=by rw[aY (by omega) (by omega)];push_cast;rfl
   refine Ok.beq (yf hfit) (Ok.aW (by have:=h.n1;simp[Bz];omega) ?_)
   have hrep:List.replicate ((c.Trucks.length:Nat):Int).toNat (0:Int)=(List.range c.Trucks.length).map fun _=>(0:Int):=by
    rw[Int.toNat_natCast]
    apply List.ext_getElem
    ·simp
    ·intro i h1 h2;simp
   refine IX h l1 l2 (fun kn3=>GJ h l1 k2 k3 fun f x w f1 f2 f3=> ?_) ?_ hrep
   ·refine hk _ ⟨k+1,e,f1,f2, ?_⟩ ?_
    ·subst f3
     cases l3 with
     |stop hn=>
      right
      refine⟨?_,rfl⟩
      have:=M9 l1 h.k0 hn
      rw[l2,l1.n]at this
      exact this
     |go hn hr=>
      left
      exact⟨_,v5 l1 hn,by rw[FC l1 hn,l2],hr⟩
    ·simp only[e];omega
   ·rw[hrep,ez,aY (by omega) (by have:=h.n1;omega)]
  ·omega
 ·have hge:=of_decide_eq_false hge
  have hwb:which=b:=by
   rcases k4 with⟨L,l1,l2,l3⟩|⟨_,l2⟩
   ·exfalso
    have:vL starts.length L<starts.length^L.length:=MU fun i hi=>l1.b i hi
    rw[l1.n,l2]at this
    omega
   ·exact l2
  subst hwb
  have hlen:which.length≤1000000:=by
   rcases Ce hb hz (.inl rfl)with e|e
   ·rw[e];simp
   ·have:=e.n;have:=h.n1;omega
  have haw:Ok (fun r=>r=true) ((sP).bind fun r=>some r):=by rw[ru];exact Ok.bind (Ok.some (P:=fun b=>b=true) rfl) fun b hb=>Ok.some hb
  by_cases hw:which=[]
  ·have hr:ky c starts which=([],⟨0,0⟩,7):=by unfold ky;rw[if_pos hw]
   have hf:found=false:=by
    cases hfn:found with
    |false=>rfl
    |true=>exact absurd hw (k2.1 hfn)
   rw[hr,hf,hw]
   exact Ok.yes rfl (Ok.beq (yP (by simp)) (Ok.yes rfl (Ok.yes rfl haw)))
  ·have hr:ky c starts which=(which,nS (iX (oC (nD c starts which))),0):=by unfold ky;rw[if_neg hw]
   have hf:found=true:=k2.2 hw
   rw[hr,hf]
   refine Ok.yes rfl (Ok.beq (yP hlen) (Ok.yes rfl (Ok.no rfl (Ok.yes ?_ haw))))
   have:=k3.resolve_left hw
   show((nS (iX (oC (nD c starts which)))).Hi==best)=true
   rw[Jd,this];simp
end
theorem uG{nums:List Int}(hn:nums.length≤9223372036854775807):kv nums=some true:=by
 rw[qs];apply ok_eq
 refine Ok.bind (vo hn) fun r _=> ?_
 refine Ok.bind (v9 _ (by omega) (by omega)) fun r2 h2=> ?_
 obtain⟨a1,a2,a3,a4,a5,a6,a7,a8,a9⟩:=h2
 refine Ok.bind (rJ _ (length:=r2.2.Length) (holds:=1) (by omega) (by omega) (by omega) (by omega)) fun r3 h3=> ?_
 refine Ok.aW (eY (by simp;omega) (by simp)) ?_
 refine Ok.bind (jm _ (by omega) (by omega) (by omega) (by omega)) fun r4 hr4=> ?_
 have hT:∀t∈r2.2.Trucks++[r3.2],∃n,n≤3∧sb r2.2.Length n t∧2*t.Pace.Hi≤max r2.2.Gap 70:=fun t ht=>by
  rcases List.mem_append.1 ht with ht|ht
  ·have:=a9 t ht;exact⟨3,by omega,a8 t ht,by omega⟩
  ·simp only[List.mem_singleton]at ht;subst ht
   have:=h3.p3
   exact⟨1,by omega,h3,by omega⟩
 have hv:ai (oC ⟨r2.2.Length,max r2.2.Gap 70,r2.2.Fails,r2.2.Trucks++[r3.2]⟩)=0:=by
  refine ot (by show 1≤r2.2.Length;omega) (by show r2.2.Length≤100000;omega) (by show 1≤max r2.2.Gap 70;omega) (by show max r2.2.Gap 70≤100000;omega) a5 (by show r2.2.Fails≤20;omega) (by show((r2.2.Trucks++[r3.2]).map oT).length≤20;rw[List.length_map,List.length_append,List.length_singleton];omega) fun x hx=> ?_
  obtain⟨y,hy,rfl⟩:=List.mem_map.1 hx
  obtain⟨n,n1,n2,n3⟩:=hT y hy
  exact HD (c:=⟨r2.2.Length,max r2.2.Gap 70,r2.2.Fails,r2.2.Trucks++[r3.2]⟩) n2 (by omega) (by show r2.2.Length≤1000;omega) n3
 have hfit:kG ⟨r2.2.Length,max r2.2.Gap 70,r2.2.Fails,r2.2.Trucks++[r3.2]⟩=true:=rE (by simp only[List.length_append,List.length_singleton];omega) fun t ht=>by
  obtain⟨n,n1,n2,_⟩:=hT t ht
  have:=n2.n;omega
 refine Ok.rounds (fun v=>v.2.2.1.1=r2.2.Length∧v.2.2.1.2.1=max r2.2.Gap 70∧v.2.2.1.2.2.1=r2.2.Fails∧0≤v.1.2.2.2.1∧v.1.2.2.2.1≤3∧1≤(v.1.2.2.1.length:Int)+v.1.2.2.2.1∧(v.1.2.2.1.length:Int)+v.1.2.2.2.1≤3∧∀x∈v.1.2.2.1,0≤x∧x≤249) (fun v=>v.1.2.2.2.1.toNat) ?_ ?_ ?_
 ·show r4.2.toNat<18446744073709551616
  omega
 ·refine⟨rfl,rfl,rfl, ?_, ?_, ?_, ?_,fun x hx=>by simp at hx⟩<;>simp<;>omega
 rintro ⟨⟨_,_,starts,i,_⟩,⟨w,_⟩,⟨q1,q2,q3,_⟩,_⟩ kn ⟨i1,i2,i3,i4,i5,i6,i7,i8⟩ hk
 simp only at i1 i2 i3 i4 i5 i6 i7 i8⊢
 subst i1 i2 i3
 refine Ok.ite (fun hlt=> ?_) fun hge=> ?_
 ·have hlt:=of_decide_eq_true hlt
  have e:bz (i-1)=i-1:=aY (by omega) (by omega)
  refine Ok.bind (cT _ (by omega)) fun r5 h5=>Ok.bind (cT _ (by omega)) fun r6 h6=>Ok.bind (vY _ (by simp) (by simp)) fun r7 h7=>Ok.aW (eY (by simp;omega) (by simp)) (hk _ ?_ ?_)
  ·simp only[List.mem_cons,List.not_mem_nil,or_false]at h7
   simp only[e,List.length_append,List.length_singleton]
   refine⟨trivial,trivial,trivial,by omega,by omega,by push_cast;omega,by push_cast;omega,fun x hx=> ?_⟩
   rcases List.mem_append.1 hx with hx|hx
   ·exact i8 x hx
   ·simp only[List.mem_singleton]at hx;subst hx;omega
  ·simp only[e];omega
 have hge:=of_decide_eq_false hge
 have hi0:i=0:=by omega
 subst hi0
 have hTOk:xw ⟨r2.2.Length,max r2.2.Gap 70,r2.2.Fails,r2.2.Trucks++[r3.2]⟩ starts:=⟨hv,by simp,by simp only[List.length_append,List.length_singleton];omega,by omega,by omega,fun i hi=>by
  have:=i8 _ (oI (d:=0) hi);omega⟩
 refine Ok.bind (xM _ _) fun r8 h8=> ?_
 unfold D9 at h8
 rw[if_neg (fun q=>q (yS hTOk))]at h8
 obtain⟨b,hb,rfl⟩:=h8
 have key:=Ja hTOk (r2:=r2) (r3:=r3) rfl hfit hb
 by_cases hbe:b=[]
 ·have hr:ky ⟨r2.2.Length,max r2.2.Gap 70,r2.2.Fails,r2.2.Trucks++[r3.2]⟩ starts b=([],⟨0,0⟩,7):=by unfold ky;rw[if_pos hbe]
  refine Ok.yes (by rw[hr];rfl) (Ok.no (by rw[hr];rfl) (Ok.no (by rw[hr];rfl) key))
 ·have hr:ky ⟨r2.2.Length,max r2.2.Gap 70,r2.2.Fails,r2.2.Trucks++[r3.2]⟩ starts b=(b,nS (iX (oC (nD ⟨r2.2.Length,max r2.2.Gap 70,r2.2.Fails,r2.2.Trucks++[r3.2]⟩ starts b))),0):=by unfold ky;rw[if_neg hbe]
  have hl:=(Ce hb (tz hTOk.k0) (.inl rfl)).resolve_left hbe
  refine Ok.no (by rw[hr];rfl) (Ok.yes (by rw[hr];rfl) (Ok.no ?_ key))
  rw[hr]
  have:=hl.n
  simp only[bne_eq_false_iff_eq]
  show(b.length:Int)=_
  rw[this]
end Go.Proofs.Plain04
namespace Go.Proofs.YtafnhieaeejlcaaDoor
open Go Go.Ab Go.ChangeShapes Go.WideShapes Go.ChangeAt Go.RowKit
set_option maxRecDepth 100000
def D6(w:World):Nat→Nat→Option Value:=fun b o=>w.cell? ⟨b,o,none⟩
theorem G7(w:World):Fits (D6 w) w:=fun _ _ _ h=>h
theorem Jl:Tryd.prog.cellsOf 3=1:=by kernel_rfl
theorem CT:Tryd.prog.cellsOf 102=2:=by kernel_rfl
theorem HZ:Tryd.prog.cellsOf 103=8:=by kernel_rfl
section
variable {H:Type} {enc:TypeId×Value→H} {W:World}
def Rd{α:Type}(enc:TypeId×Value→H)(W:World)(t:TypeId)(ec:α→List D):Prop:=
 ∀n cs x,DataW.trod enc Tryd.prog W 0 (fun _=>true) true n t cs=some x→∃a:α,RepL (D6 W) tn m9 (ec a) cs
theorem Ka{fs:Array Field}{xs:List (DataW H×List MemPlace)}{cs:List Value}{n:Nat}
 (hf:∀(i:Nat) (f:Field),fs[i]? =some f→DataW.trod enc Tryd.prog W 0 (fun _=>true) true n f.type ((cs.drop f.offset).take (Tryd.prog.cellsOf f.type))=xs[i]?)
 (hl:xs.length=fs.size)(i:Nat)(f:Field)(hi:fs[i]? =some f):∃y,DataW.trod enc Tryd.prog W 0 (fun _=>true) true n f.type ((cs.drop f.offset).take (Tryd.prog.cellsOf f.type))=some y:=by
 have h1:=(Array.getElem?_eq_some_iff.1 hi).1
 rw[←hl]at h1
 exact⟨xs[i],by rw[hf i f hi];exact List.getElem?_eq_getElem h1⟩
theorem Ov:Rd enc W 3 fU:=by
 intro n cs x h
 obtain⟨a,rfl,_⟩:=DataW.trod_int Tryd.underlying3 h
 exact⟨a, .cons _ _ _ _ (.int _ _) .nil⟩
theorem IG{α:Type}[Inhabited α]{t e z:Nat}{ec:α→List D}(ht:Tryd.prog.underlying t=some (.slice e))(hz:Tryd.prog.cellsOf e=z)(hz0:0<z)(hl:∀a,(ec a).length=z)
 (hc:∀a,aU (ec a)=true)(hr:Rd enc W e ec):Rd enc W t (fun l:List α=>[oo z ec l]):=by
 intro n cs x h
 rcases Deep.open_slice ht h with⟨rfl,rfl⟩|⟨a,len,cap,m,n',D,Pl,rfl,_,hlc,_,hm,rfl,hx⟩
 ·exact⟨[], .cons _ _ _ _ (.sl0 _ _) .nil⟩
 ·simp only[if_true]at hm
  subst hm
  rw[hz]at hx
  rcases Nat.eq_zero_or_pos len with rfl|hpos
  ·exact⟨[], .cons _ _ _ _ (.slE _ _ _ _) .nil⟩
  ·have hx' :∀i,i<len→∃p:α×List Value,W.cells? 0 (a.add (i*z)) z=some p.2∧RepL (D6 W) tn m9 (ec p.1) p.2:=fun i hi=>by
    obtain⟨cs',h1,h2⟩:=hx i (by omega)
    obtain⟨b,hb⟩:=hr _ _ _ h2
    exact⟨(b,cs'),h1,hb⟩
   obtain⟨F,hF⟩:=Deep.choose_lt hx'
   have hsp:a.spot=none:=by
    obtain⟨_,h1,h2⟩:=World.cells?_some (hF 0 hpos).1
    have h3:=h2 0 hz0
    rw[List.getElem?_eq_getElem (by omega)]at h3
    simpa[Addr.add]using World.cell?_spot h3
   obtain⟨b,off,sp⟩:=a
   simp only at hsp
   subst hsp
   refine⟨(List.range len).map (fun i=>(F i).1), .cons _ _ _ _ ?_ .nil⟩
   have hlen:((List.range len).map (fun i=>(F i).1)).length=len:=by simp
   have hg:∀i,i<len→((List.range len).map (fun i=>(F i).1)).getD i default=(F i).1:=fun i hi=>by simp[List.getD,hi]
   unfold oo
   rw[hlen]
   refine .sl z len _ b off m (fun i=>(F i).2) hlc (fun i _=>hl _) (fun i _=>hc _) (fun i hi=>by rw[hg i hi];exact(hF i hi).2) (fun i j v hi hj=> ?_)
   obtain⟨_,h1,h2⟩:=World.cells?_some (hF i hi).1
   have hjl:=(List.getElem?_eq_some_iff.1 hj).1
   have h3:=h2 j (by omega)
   rw[add_plain,add_plain,hj]at h3
   exact h3
theorem JE{v:Value}{d:DataW H}{ps:List MemPlace}{base:Nat}(hv:Value.okWide Tryd.prog W .any base 31 v)(h:DataW.Trod enc Tryd.prog W 0 (fun _=>true) true 31 v d ps):
 ∃l:List Int,cX (D6 W) tn m9 (oo 1 fU l) v:=by
 obtain⟨n,hn⟩:=h
 obtain⟨l,hl⟩:=IG (ec:=fU) Tryd.underlying31 Jl (by decide) (fun _=>rfl) (fun _=>rfl) Ov _ _ _ hn
 obtain⟨a0,len,cap,rfl⟩:=okWide_slice Tryd.underlying31 hv
 cases hl with
 |cons _ _ _ _ k _=>exact⟨l,k⟩
end
theorem Lf{W:World}(h:laidMetH Tryd.prog [("sastrugi/convoy.cases",Rows.laid_sastrugi_convoy_cases)] W):jM cJ (D6 W):=by
 have h' :laidMet Tryd.prog [("sastrugi/convoy.cases",Rows.laid_sastrugi_convoy_cases)] W:=h
 obtain⟨ps,⟨g,t,cs,fuel,p,q,hg,ht,hvar,hd,_,_⟩,_⟩:=h'
 have hg0:Tryd.prog.globalNamed "sastrugi/convoy.cases" =some 0:=by kernel_rfl
 have ht0:(Tryd.prog.globals[0]?).map (·.type)=some 103:=by kernel_rfl
 obtain rfl:=Option.some.inj (hg0.symm.trans hg)
 obtain rfl:=Option.some.inj (ht0.symm.trans ht)
 obtain⟨xs,m,rfl,hx,hlen,hxl,he⟩:=DataW.trod_array Tryd.underlying103 hd
 have hx1:=congrArg Prod.fst hx
 simp only[Rows.laid_sastrugi_convoy_cases,DataW.agg.injEq]at hx1
 rw[HZ]at hlen
 rw[CT]at he
 have row:∀i a b,i<4→(xs.map (·.1))[i]? =some (.agg [.lit (.int .i64 a), .lit (.int .i64 b)])→(cs.toList.drop (i*2)).take 2=[Value.int .i64 a,Value.int .i64 b]:=fun i a b hi hi2=>by
  rw[List.getElem?_map]at hi2
  obtain⟨y,hy,hy2⟩:=Option.map_eq_some_iff.1 hi2
  have h1:=he i hi
  rw[hy]at h1
  obtain⟨d,p'⟩:=y
  simp only at hy2
  subst hy2
  exact Lib.cells_of_tab (zs:=[a,b]) Tryd.underlying102 Tryd.underlying3 Jl CT h1
 rw[←hx1]at row
 have r0:=row 0 0 0 (by decide) rfl
 have r1:=row 1 1 0 (by decide) rfl
 have r2:=row 2 0 1 (by decide) rfl
 have r3:=row 3 1 1 (by decide) rfl
 have hcell:∀j,W.cell? ⟨0,j,none⟩=cs.toList[j]? :=fun j=>by rw[World.var?_cell hg hvar j];simp
 generalize cs.toList=l at hlen r0 r1 r2 r3 hcell
 rcases l with _|⟨c0,_|⟨c1,_|⟨c2,_|⟨c3,_|⟨c4,_|⟨c5,_|⟨c6,_|⟨c7,_|⟨c8,l⟩⟩⟩⟩⟩⟩⟩⟩⟩<;>simp at hlen
 simp at r0 r1 r2 r3
 obtain⟨rfl,rfl⟩:=r0
 obtain⟨rfl,rfl⟩:=r1
 obtain⟨rfl,rfl⟩:=r2
 obtain⟨rfl,rfl⟩:=r3
 intro g l hl
 show _
 have hl' :By g=some l:=hl
 unfold By at hl'
 split at hl'
 ·simp only[Option.some.injEq]at hl'
  subst hl'
  refine⟨rfl,_, ?_,fun j v hj=>by rw[show D6 W 0 j=_ from hcell j];exact hj⟩
  exact .cons _ _ _ _ (.int _ _) (.cons _ _ _ _ (.int _ _) (.cons _ _ _ _ (.int _ _) (.cons _ _ _ _ (.int _ _) (.cons _ _ _ _ (.int _ _) (.cons _ _ _ _ (.int _ _) (.cons _ _ _ _ (.int _ _) (.cons _ _ _ _ (.int _ _) .nil)))))))
 ·cases hl'
theorem laidOut:laidOutB Tryd.prog=true:=by kernel_rfl
theorem own:ownKnob Tryd.prog.godebug=none:=by kernel_rfl
theorem pZ{H:Type}{enc:TypeId×Value→H}{W W' :World}{sp' :Nat→Bool}(hb:Below W.heap.size W W'):∀{ts:List TypeId} {vs:List Value} {ds:List (DataW H)} {ps:List MemPlace},
 (∀t∈ts,Tryd.prog.readableRec t=true∧t<Tryd.prog.types.size)→DataW.TrodAll enc Tryd.prog W 0 (fun _=>true) true ts vs ds ps→(∀p∈ps,p.block<W.heap.size)→(∀p∈ps,sp' p.block=true)→
 DataW.TrodAll enc Tryd.prog W' 0 sp' true ts vs ds ps
 |[],[],[],_,_,h,_,_=>h
 |_::_,_::_,_::_,_,hT,⟨p,q,h1,h2,e⟩,hlt,hs=>⟨p,q,
   WideElems.Trod_stays laidOut (hT _ (List.mem_cons_self ..)).1 (hT _ (List.mem_cons_self ..)).2 h1 (fun x hx=>hb.same (hlt x (by rw[e];exact List.mem_append_left _ hx))) (fun x hx=>hs x (by rw[e];exact List.mem_append_left _ hx)),
   pZ hb (fun t ht=>hT t (List.mem_cons_of_mem _ ht)) h2 (fun x hx=>hlt x (by rw[e];exact List.mem_append_right _ hx)) (fun x hx=>hs x (by rw[e];exact List.mem_append_right _ hx)),e⟩
theorem Jn{H:Type}{enc:TypeId×Value→H}{f:Func}{s:ChangeSpec}{W W' :World}{args:Array Value}{ds gs:List (DataW H)}{before:List MemPlace}
 (hW:DataW.Whole enc Tryd.prog f.params.toList s.vars false W args.toList ds gs before)(hv:s.vars=[])(hb:Below W.heap.size W W')
 (hT:∀t∈f.params.toList,Tryd.prog.readableRec t=true∧t<Tryd.prog.types.size)(hrt:f.resultTypes= #[4])
 (hr:(s.fn H (ds++gs)).results=[.lit (.bool true)])(ha:(s.fn H (ds++gs)).args=ds)(hvs:(s.fn H (ds++gs)).vars=[]):
 s.post enc Tryd.prog f false true false false W args (.bool true) W' :=by
 have hlt:=hW.lt
 have hW2:=hW
 obtain⟨p,q,hA,hV,rfl,_,_⟩:=hW
 rw[hv]at hV
 obtain⟨rfl,rfl⟩:=trodVars_none hV
 refine⟨ds,[],p++[],[],p,[],hW2, ?_, ?_, ?_,hb.frame _,fun h=>by cases h⟩
 ·rw[hr,hrt]
  exact trodAll_mk1 (shut_bool Tryd.underlying4 _)
 ·rw[ha]
  exact pZ hb hT hA (fun x hx=>hlt x (by simpa using hx)) (fun x hx=>by simpa using hlt x (by simpa using hx))
 ·rw[hvs,hv];rfl
noncomputable def tu(os:Os):World:=
 {World.holding Tryd.prog os ⟨#[], #[],[]⟩with heap:=(World.holding Tryd.prog os ⟨#[], #[],[]⟩).heap.modify 0 fun
  | .cells _ t frozen=> .cells #[.int .i64 0, .int .i64 0, .int .i64 1, .int .i64 0, .int .i64 0, .int .i64 1, .int .i64 1, .int .i64 1] t frozen
  |o=>o}
end Go.Proofs.YtafnhieaeejlcaaDoor
namespace Go.Proofs.YtafnhieaeejlcaaDoor
open Go Go.Ab Go.ChangeShapes Go.WideShapes Go.ChangeAt Go.RowKit
set_option linter.all false
set_option maxRecDepth 100000
theorem IV{κ:Nat→Nat→Option Value}{γ:Nat→Nat}{sv:Nat→Value}{W:World}{base:Nat}{v:Value}{l:List Int}(hv:Value.okWide Tryd.prog W .any base 31 v)(h:cX κ γ sv (oo 1 fU l) v):l.length≤9223372036854775807:=by
 unfold oo at h
 generalize hn:l.length=n at h
 cases h with
 |sl0=>omega
 |slE=>omega
 |sl _ _ _ b off cap u hc=>
  simp only[Value.okWide,Cell.okWide,Cell.ok,Tryd.underlying31]at hv
  have h1:=hv.2.1
  have h2:IntKind.i64.max=9223372036854775807:=by decide
  rw[h2]at h1
  omega
section
variable {H:Type} {enc:TypeId×Value→H} {W:World}
end
end Go.Proofs.YtafnhieaeejlcaaDoor
