/- Walks by computing: what each function of the program that the laws reach gives for what it gets, as plain Lean, and that it is so; without a condition but those that stand in each theorem. -/
import Derived.Test.YtafnhieaeejlcaaDoorCards
import Derived.Test.YtafnhieaeejlcaaDoorTie
import Derived.WalkKit
import Derived.ProofKit
import Derived.OpenShut
import Derived.Deep.Slices
import Derived.Deep.DeepHandedRow
import Derived.Lib.LaidTab
import Derived.Test.YtafnhieaeejlcaaDoorW1
import Derived.Test.YtafnhieaeejlcaaDoorW2
import Derived.Test.YtafnhieaeejlcaaDoorW3
import Derived.Test.YtafnhieaeejlcaaDoorW4
import Derived.Test.YtafnhieaeejlcaaDoorW5
import Derived.Test.YtafnhieaeejlcaaDoorW6
import Derived.Test.YtafnhieaeejlcaaDoorW7
import Derived.Test.YtafnhieaeejlcaaDoorW8
import Derived.Test.YtafnhieaeejlcaaDoorW9
import Derived.Test.YtafnhieaeejlcaaDoorW10
import Derived.Test.YtafnhieaeejlcaaDoorW11
import Derived.Test.YtafnhieaeejlcaaDoorW12
import Derived.Test.YtafnhieaeejlcaaDoorW13
import Derived.Test.YtafnhieaeejlcaaDoorW14
import Derived.Test.YtafnhieaeejlcaaDoorW15
import Derived.Test.YtafnhieaeejlcaaDoorW16
import Derived.Test.YtafnhieaeejlcaaDoorW17
set_option linter.all false
namespace Go.Proofs.Plain04
open Go Go.Ab
open Go.Proofs.YtafnhieaeejlcaaDoor (cj bb bW eZ CR al fC lB qC jK Ck oO od cY)
set_option linter.all false
theorem yy{l:List Int}(hl:l.length≤1000000):xJ l l=some true:=by
 rw[F5];apply ok_eq
 refine Ok.no (by simp) ?_
 refine Ok.rounds (fun v=>0≤v.1.1∧v.1.1≤l.length) (fun v=>((l.length:Int)-v.1.1).toNat) ?_ ?_ ?_
 ·show((l.length:Int)-0).toNat<18446744073709551616
  omega
 ·exact⟨Int.le_refl _,by show(0:Int)≤_;omega⟩
 ·rintro ⟨⟨i,_⟩,_⟩ kn ⟨h1,h2⟩ hk
  simp only at h1 h2⊢
  have e:bG (i+1)=i+1:=bk (by omega) (by omega)
  refine Ok.ite (fun hlt=> ?_) fun _=>Ok.some rfl
  have hlt:=of_decide_eq_true hlt
  exact Ok.aP (ib h1 hlt) (Ok.aP (ib h1 hlt) (Ok.no (by simp) (hk _ (by simp only[e];omega) (by simp only[e];omega))))
section
open Classical
end
theorem map_take{α β:Type}(f:α→β)(d:α)(l:List α){n:Nat}(h:n<l.length):(List.range n).map (fun i=>f (l.getD i d))++[f (l.getD n d)]=(List.range (n+1)).map fun i=>f (l.getD i d):=mK _ n
end Go.Proofs.Plain04
namespace Go.Proofs.Plain04
open Go
open Go.Ab hiding atP
open Go.Proofs.YtafnhieaeejlcaaDoor (eZ CR al bO fC bI lB)
set_option linter.all false
theorem IG{c:Convoy}{starts b l r:List Int}(h:qA c starts b l r)(hl:oi c starts l)(hb:b=[]∨oi c starts b):r=[]∨oi c starts r:=by
 have st:∀{b l:List Int},oi c starts l→(b=[]∨oi c starts b)→gm c starts b l=[]∨oi c starts (gm c starts b l):=fun{b l} hl hb=>by
  unfold gm
  split
  ·exact .inr hl
  ·exact hb
 induction h with
 |stop hn=>exact st hl hb
 |go hn _ ih=>exact ih (vM hl hn) (st hl hb)
theorem H4{c:Convoy}{starts:List Int}{r:List Int×Span×Int}(h:tr c starts r):r.1.length≤c.Trucks.length:=by
 unfold tr at h
 split at h
 ·rw[h];exact Nat.zero_le _
 ·rename_i h0
  obtain⟨b,hb,rfl⟩:=h
  have hk:1≤starts.length:=by
   refine Classical.byContradiction fun hn=>h0 ?_
   unfold s6
   split
   ·rename_i q;exact q
   ·rw[if_pos (.inr (by omega))];decide
  rcases IG hb (s7 hk) (.inl rfl)with e|e
  ·subst e;exact Nat.zero_le _
  ·unfold xI
   split
   ·exact Nat.zero_le _
   ·exact Nat.le_of_eq e.n
theorem xB(c:Convoy)(starts:List Int):Ok (tr c starts) (gP c starts):=by
 rw[pK]
 refine Ok.beq (yT c) (IA (fun _ h=>h) fun h0 n0 n1 k0 k1=> ?_)
 refine Ok.bind (CN (by omega)) fun r2 h2=>Ok.ite (fun q=>Ok.some ?_) fun q=> ?_
 ·exact kc (CB h0 n0 n1 k0 k1 (h2.1 q)) (by decide)
 have hs:xt starts:=Classical.byContradiction fun hn=>by rw[h2.2 hn]at q;cases q
 have hT:xS c starts:=⟨h0,n0,n1,k0,k1,hs⟩
 have hfin:∀b,qA c starts [] (j9 c.Trucks.length) b→tr c starts (xI c starts b):=fun b hb=>by
  unfold tr
  rw[if_neg (by rw[zE hT];decide)]
  exact⟨b,hb,rfl⟩
 refine Ok.rounds (fun v=>v.1.2.1=[]∧∃k:Nat,k≤c.Trucks.length∧v.1.2.2.2.2.1=(k:Int)∧v.1.2.2.2.1=(List.range k).map fun i=>(List.range starts.length).map (OK c starts i)) (fun v=>((c.Trucks.length:Int)-v.1.2.2.2.2.1).toNat) ?_ ?_ ?_
 ·show((c.Trucks.length:Int)-0).toNat<18446744073709551616
  omega
 ·exact⟨rfl,0,Nat.zero_le _,rfl,rfl⟩
 rintro ⟨⟨_,list,_,all,x,_⟩,_⟩ kn ⟨e0,i,i1,e1,e2⟩ hk
 simp only at e0 e1 e2 hk⊢
 subst e0 e1 e2
 refine Ok.ite (fun hlt=> ?_) fun hge=> ?_
 ·have hlt:i<c.Trucks.length:=by have:=of_decide_eq_true hlt;omega
  have ei:bG ((i:Int)+1)=((i+1:Nat):Int):=by rw[bk (by omega) (by omega)];push_cast;rfl
  refine Ok.rounds (fun v=>v.1.2.1=[]∧∃k:Nat,k≤starts.length∧v.1.2.2.2.2.2.1=(k:Int)∧v.1.2.2.2.2.1=(List.range k).map (OK c starts i)) (fun v=>((starts.length:Int)-v.1.2.2.2.2.2.1).toNat) ?_ ?_ ?_
  ·show((starts.length:Int)-0).toNat<18446744073709551616
   omega
  ·exact⟨rfl,0,Nat.zero_le _,rfl,rfl⟩
  rintro ⟨⟨_,list2,_,_,row,y,_⟩,_⟩ kn2 ⟨f0,k,k1',f1,f2⟩ hk2
  simp only at f0 f1 f2 hk2⊢
  subst f0 f1 f2
  refine Ok.ite (fun hlt2=> ?_) fun hge2=> ?_
  ·have hlt2:k<starts.length:=by have:=of_decide_eq_true hlt2;omega
   have ek:bG ((k:Int)+1)=((k+1:Nat):Int):=by rw[bk (by omega) (by omega)];push_cast;rfl
   simp only[Int.toNat_natCast]
   have hz:(List.replicate c.Trucks.length (0:Int)).length=c.Trucks.length:=List.length_replicate
   have hl:oi c starts ((List.replicate c.Trucks.length (0:Int)).set i (k:Int)):=by
    refine⟨by simp,fun j hj=> ?_⟩
    rw[kj]
    split
    ·omega
    ·rw[List.getD_eq_getElem?_getD,List.getElem?_replicate]
     split<;>simp<;>omega
   have hget:zn c starts ((List.replicate c.Trucks.length (0:Int)).set i (k:Int)) i=wK (c.Trucks.getD i aK) (starts.getD k 0):=by
    unfold zn
    rw[kj,if_pos ⟨rfl,by simpa using hlt⟩];rfl
   have hrow:((List.range (qN c starts ((List.replicate c.Trucks.length (0:Int)).set i (k:Int))).Trucks.length).map fun j=>ll (qN c starts ((List.replicate c.Trucks.length (0:Int)).set i (k:Int))) ((qN c starts ((List.replicate c.Trucks.length (0:Int)).set i (k:Int))).Trucks.getD j aK)).getD i fX=OK c starts i k:=by
    rw[ez _ _ (by rw[Aj];exact hlt),mZ hlt,hget];rfl
   refine Ok.aP (by simp[C3];omega) (Ok.aP (by simp;omega) (Ok.aP (by simp;omega) (Ok.beq (uj (by omega) hl) (Ok.beq (DZ (rT h0 hs hl)) (Ok.aP (by rw[dR,Aj];exact ib (by omega) (by omega)) ?_)))))
   rw[hrow]
   refine Ok.aP (fa (by simp;omega) (by omega)) (hk2 _ ⟨rfl,k+1,hlt2,ek,mK (OK c starts i) k⟩ ?_)
   simp only[ek];omega
  ·have hge2:k=starts.length:=by have:=of_decide_eq_false hge2;omega
   subst hge2
   refine Ok.aP (fa (by simp;omega) (by omega)) (hk _ ⟨rfl,i+1,hlt,ei,mK (fun i=>(List.range starts.length).map (OK c starts i)) i⟩ ?_)
   simp only[ei];omega
 ·have hge:i=c.Trucks.length:=by have:=of_decide_eq_false hge;omega
  subst hge
  refine Ok.aP (by simp[C3];omega) ?_
  change Ok _ (cH _ _ (((),[],(),(),(),j9 c.Trucks.length,()),((0,0,()),())))
  refine Ok.rounds (fun v=>oi c starts v.1.2.2.2.2.2.1∧(v.1.2.1=[]∨oi c starts v.1.2.1∧v.2.1.2.1=Lm c starts v.1.2.1)∧∀r,qA c starts v.1.2.1 v.1.2.2.2.2.2.1 r→qA c starts [] (j9 c.Trucks.length) r) (fun v=>10000-vL starts.length v.1.2.2.2.2.2.1) ?_ ?_ ?_
  ·show 10000-vL starts.length (j9 c.Trucks.length)<18446744073709551616
   omega
  ·exact⟨s7 k0, .inl rfl,fun _ q=>q⟩
  rintro ⟨⟨_,list,_,_,_,now,_⟩,⟨⟨lo,hi,_⟩,_⟩⟩ kn3 ⟨g1,g2,g3⟩ hk3
  simp only at g1 g2 g3 hk3⊢
  refine NX hT g1 g2 (fun l' a b hx hb=>hk3 _ ⟨vM g1 hx,hb,fun r q=>g3 _ (.go hx q)⟩ ?_) fun hx=>hfin _ (g3 _ (.stop hx))
  have:=Mc g1 n1 k1
  simp only[Fu g1 hx];omega
theorem Od{l:List Int}(h:l.length≤1000):Own l=some l:=by
 rw[Jj];apply ok_eq
 exact Ok.aP (fa (by simp;omega) (by omega)) (Ok.some (by simp))
theorem LR{t s:Int}(h:t≤1000):Ok (fun _=>True) (many t s):=by
 rw[Ga]
 refine Ok.rounds (fun v=>0≤v.1.2.1∧v.1.2.1≤max t 0) (fun v=>(t-v.1.2.1).toNat) ?_ ?_ ?_
 ·show(t-0).toNat<18446744073709551616
  omega
 ·exact⟨Int.le_refl _,by show(0:Int)≤max t 0;omega⟩
 rintro ⟨⟨n,i,_⟩,_⟩ kn ⟨h1,h2⟩ hk
 simp only at h1 h2⊢
 refine Ok.ite (fun hlt=>hk _ ?_ ?_) fun _=>Ok.some trivial
 ·have hlt:=of_decide_eq_true hlt
  simp only[bk (n:=i+1) (by omega) (by omega)];omega
 ·have hlt:=of_decide_eq_true hlt
  simp only[bk (n:=i+1) (by omega) (by omega)];omega
theorem Ht{c:Convoy}{r7:aQ×Convoy}{starts more:List Int}(hc:gx c=true)(hm:gx r7.2=true)(hs:starts.length≤9)(hmo:more.length≤9)(hc2:c.Trucks.length≤1000)(hm2:r7.2.Trucks.length≤1000):
 Ok (fun b=>b=true) (cH _ (fun(v_0:(Unit×Unit×Int×Unit)×(Unit)) kn=>nj c r7 starts more v_0.1.2.2.1 (fun y0=>kn (((),(),y0,()),(())))) (((),(),0,()),(()))):=by
 refine Ok.rounds (fun v=>0≤v.1.2.2.1∧v.1.2.2.1≤2) (fun v=>(2-v.1.2.2.1).toNat) ?_ ?_ ?_
 ·show(2-(0:Int)).toNat<18446744073709551616
  omega
 ·simp
 rintro ⟨⟨_,_,i,_⟩,_⟩ kn hi' hk
 simp only at hi'⊢
 refine Ok.ite (fun hlt=> ?_) fun _=> ?_
 ·simp only[decide_eq_true_eq]at hlt
  have e:bG (i+1)=i+1:=bk (by omega) (by omega)
  have hlt3:i<2:=by simpa using hlt
  have b1:(decide (0≤i)&&decide (i<((([c,r7.2]:List Convoy).length:Nat):Int)))=true:=by simp;omega
  have b2:(decide (i.toNat<([c,r7.2]:List Convoy).length))=true:=by simp;omega
  have d1:(decide (0≤i)&&decide (i<((([starts,more]:List (List Int)).length:Nat):Int)))=true:=by simp;omega
  have d2:(decide (i.toNat<([starts,more]:List (List Int)).length))=true:=by simp;omega
  have hall:∀x∈([c,r7.2]:List Convoy),gx x=true∧x.Trucks.length≤1000:=fun x hx=>by
   simp only[List.mem_cons,List.not_mem_nil,or_false]at hx
   rcases hx with rfl|rfl
   ·exact⟨hc,hc2⟩
   ·exact⟨hm,hm2⟩
  have hx:=hall (([c,r7.2]:List Convoy).getD i.toNat cR) (nN (by simp;omega))
  generalize hx0:([c,r7.2]:List Convoy).getD i.toNat cR=x at hx
  have hally:∀x∈([starts,more]:List (List Int)),x.length≤9:=fun x hx=>by
   simp only[List.mem_cons,List.not_mem_nil,or_false]at hx
   rcases hx with rfl|rfl<;>assumption
  have hy:=hally (([starts,more]:List (List Int)).getD i.toNat []) (nN (by simp;omega))
  generalize hy0:([starts,more]:List (List Int)).getD i.toNat []=y at hy
  refine Ok.aP b1 (Ok.aP b2 (Ok.beq (xA hx.1) (Ok.aP d1 (Ok.aP d2 (Ok.beq (Od (by omega)) (Ok.bind (xB _ _) fun p hp=> ?_))))))
  refine Ok.aP b1 (Ok.aP b2 (Ok.aP d1 (Ok.aP d2 (Ok.bind (xQ _ _) fun q hq=> ?_))))
  have hpq:=IC hp hq
  subst hpq
  have hlen:=H4 hp
  refine Ok.beq (yy (by omega)) (Ok.no rfl (Ok.no (by simp) (Ok.no (by simp) (Ok.aP b1 (Ok.aP b2 ?_)))))
  refine Ok.bind (P:=fun b=>b=true) (by rw[kG];exact Ok.aP (uZ hx.1) (Ok.some (by simp))) fun b hb2=> ?_
  subst hb2
  refine Ok.no rfl (Ok.aP d1 (Ok.aP d2 (Ok.beq (yy (by omega)) (Ok.no rfl (hk _ ?_ ?_)))))
  ·simp only[e];omega
  ·simp only[e];omega
 ·rw[nz];exact Ok.bind (Ok.some (P:=fun b=>b=true) rfl) fun b hb=>Ok.some hb
theorem GA: @k8= @ie:=rfl
theorem GW: @lg= @ie:=rfl
theorem yf{c:Convoy}(h:gx c=true):c.Trucks.length≤1000:=by
 unfold gx at h
 simp only[Bool.and_eq_true,decide_eq_true_eq]at h
 omega
theorem wG{c:Convoy}{r7:aQ×Convoy}{starts:List Int}{n w:Int}(hc:gx c=true)(hm:gx r7.2=true)(hs:starts.length≤9)(hn:n≤4):
 Ok (fun b=>b=true) (cH _ (fun(v_0:(Unit×Unit×Unit×(List Int)×Int×Unit)×((Int×Unit)×Unit)) kn=>ie cH c r7 starts v_0.1.2.2.2.1 v_0.1.2.2.2.2.1 v_0.2.1.1 (fun y0 y1 y2=>kn (((),(),(),y0,y1,()),((y2,()),())))) (((),(),(),([]:List Int),n,()),((w,()),()))):=by
 refine Ok.rounds (fun v=>v.1.2.2.2.2.1≤4∧(v.1.2.2.2.1.length:Int)+max 0 v.1.2.2.2.2.1≤4) (fun v=>v.1.2.2.2.2.1.toNat) ?_ ?_ ?_
 ·show n.toNat<18446744073709551616
  omega
 ·exact⟨hn,by show((0:Nat):Int)+max 0 n≤4;omega⟩
 rintro ⟨⟨_,_,_,more,i,_⟩,⟨⟨w,_⟩,_⟩⟩ kn ⟨h1,h2⟩ hk
 simp only at h1 h2⊢
 refine Ok.ite (fun hlt=> ?_) fun hge=>Ht hc hm hs (by omega) (yf hc) (yf hm)
 have hlt:=of_decide_eq_true hlt
 have e:bG (i-1)=i-1:=bk (by omega) (by omega)
 refine Ok.bind (eM _ (by omega)) fun r9 _=>Ok.bind (Fx _ (by simp) (by simp)) fun r10 _=>Ok.aP (fa (by simp;omega) (by omega)) (hk _ ?_ ?_)
 ·simp only[e,List.length_append,List.length_singleton];push_cast;omega
 ·simp only[e];omega
theorem tp(c:Convoy){starts nums:List Int}(_:starts.length≤9223372036854775807)(hn:nums.length≤9223372036854775807):ju c starts nums=some true:=by
 rw[oR];apply ok_eq
 have hawake:Ok (fun b=>b=true) ((ma).bind fun r7=>some r7):=by rw[nz];exact Ok.bind (Ok.some (P:=fun b=>b=true) rfl) fun b hb=>Ok.some hb
 refine Ok.bind (P:=fun b=>b=lB (oC c)) (by rw[DA];exact Ok.some rfl) fun b hb=> ?_
 refine Ok.ite (fun _=>hawake) fun hf=>Ok.ite (fun _=>hawake) fun hs=> ?_
 subst hb
 have hc:=Gv hf
 have hs:starts.length≤9:=by have:=of_decide_eq_false hs;omega
 have tail:∀(K:aQ×Convoy→aQ×Int→Option Bool),(∀r7 r8,gx r7.2=true→r8.2≤4→Ok (fun b=>b=true) (K r7 r8))→Ok (fun b=>b=true) ((jM nums).bind fun r6=>(ir r6 3).bind fun r7=>(sK r7.1 1 4).bind fun r8=>K r7 r8):=fun K hK=>by
  refine Ok.bind (wU hn) fun r6 _=>Ok.bind (tZ _ (by omega) (by omega)) fun r7 h7=>Ok.bind (pw _ (by omega) (by omega) (by omega) (by omega)) fun r8 h8=>hK _ _ ?_ (by omega)
  exact re (by omega) fun t ht=>by have:=h7.2 t ht;omega
 refine Ok.ite (fun ht=>Ok.ite (fun _=>Ok.bind (LR (by have:=of_decide_eq_true ht;omega)) fun r4 _=>Ok.ite (fun _=>hawake) fun _=> ?_) fun _=> ?_) fun _=> ?_
 ·exact tail _ fun r7 r8 h7 h8=>wG hc h7 hs h8
 ·rw[GA];exact tail _ fun r7 r8 h7 h8=>wG hc h7 hs h8
 ·rw[GW];exact tail _ fun r7 r8 h7 h8=>wG hc h7 hs h8
end Go.Proofs.Plain04
namespace Go.Proofs.YtafnhieaeejlcaaDoor
open Go Go.Ab Go.ChangeShapes Go.WideShapes Go.ChangeAt Go.RowKit
set_option maxRecDepth 100000
def Ct(w:World):Nat→Nat→Option Value:=fun b o=>w.cell? ⟨b,o,none⟩
theorem GL(w:World):Fits (Ct w) w:=fun _ _ _ h=>h
theorem sP:Tryd.prog.cellsOf 3=1:=by kernel_rfl
theorem FF:Tryd.prog.cellsOf 22=1:=by kernel_rfl
theorem KY:Tryd.prog.cellsOf 24=4:=by kernel_rfl
theorem Av:Tryd.prog.cellsOf 47=2:=by kernel_rfl
theorem F8:Tryd.prog.cellsOf 48=1:=by kernel_rfl
theorem Gw:Tryd.prog.cellsOf 50=5:=by kernel_rfl
theorem Fa:Tryd.prog.cellsOf 89=2:=by kernel_rfl
theorem B2:Tryd.prog.cellsOf 102=2:=by kernel_rfl
theorem Kc:Tryd.prog.cellsOf 103=8:=by kernel_rfl
section
variable {H:Type} {enc:TypeId×Value→H} {W:World}
def Rd{α:Type}(enc:TypeId×Value→H)(W:World)(t:TypeId)(ec:α→List D):Prop:=
 ∀n cs x,DataW.trod enc Tryd.prog W 0 (fun _=>true) true n t cs=some x→∃a:α,RepL (Ct W) rI mA (ec a) cs
theorem vU{fs:Array Field}{xs:List (DataW H×List MemPlace)}{cs:List Value}{n:Nat}
 (hf:∀(i:Nat) (f:Field),fs[i]? =some f→DataW.trod enc Tryd.prog W 0 (fun _=>true) true n f.type ((cs.drop f.offset).take (Tryd.prog.cellsOf f.type))=xs[i]?)
 (hl:xs.length=fs.size)(i:Nat)(f:Field)(hi:fs[i]? =some f):∃y,DataW.trod enc Tryd.prog W 0 (fun _=>true) true n f.type ((cs.drop f.offset).take (Tryd.prog.cellsOf f.type))=some y:=by
 have h1:=(Array.getElem?_eq_some_iff.1 hi).1
 rw[←hl]at h1
 exact⟨xs[i],by rw[hf i f hi];exact List.getElem?_eq_getElem h1⟩
theorem KT:Rd enc W 89 fB:=by
 intro n cs x h
 obtain⟨xs,m,rfl,rfl,hlen,hxl,hf⟩:=DataW.trod_struct Tryd.underlying89 h
 obtain⟨y0,h0⟩:=vU hf hxl 0 _ rfl
 obtain⟨y1,h1⟩:=vU hf hxl 1 _ rfl
 obtain⟨a0,e0,_⟩:=DataW.trod_int Tryd.underlying3 h0
 obtain⟨a1,e1,_⟩:=DataW.trod_int Tryd.underlying3 h1
 rw[Fa]at hlen
 rcases cs with _|⟨c0,_|⟨c1,_|⟨c2,cs⟩⟩⟩<;>simp at hlen
 simp[sP]at e0 e1
 subst e0 e1
 exact⟨⟨a0,a1⟩, .cons _ _ _ _ (.int _ _) (.cons _ _ _ _ (.int _ _) .nil)⟩
theorem N4:Rd enc W 3 fy:=by
 intro n cs x h
 obtain⟨a,rfl,_⟩:=DataW.trod_int Tryd.underlying3 h
 exact⟨a, .cons _ _ _ _ (.int _ _) .nil⟩
theorem KL:Rd enc W 47 bA:=by
 intro n cs x h
 obtain⟨xs,m,rfl,rfl,hlen,hxl,hf⟩:=DataW.trod_struct Tryd.underlying47 h
 obtain⟨y0,h0⟩:=vU hf hxl 0 _ rfl
 obtain⟨y1,h1⟩:=vU hf hxl 1 _ rfl
 obtain⟨a0,e0,_⟩:=DataW.trod_int Tryd.underlying3 h0
 obtain⟨a1,e1,_⟩:=DataW.trod_int Tryd.underlying3 h1
 rw[Av]at hlen
 rcases cs with _|⟨c0,_|⟨c1,_|⟨c2,cs⟩⟩⟩<;>simp at hlen
 simp[sP]at e0 e1
 subst e0 e1
 exact⟨⟨a0,a1⟩, .cons _ _ _ _ (.int _ _) (.cons _ _ _ _ (.int _ _) .nil)⟩
theorem wF{α:Type}[Inhabited α]{t e z:Nat}{ec:α→List D}(ht:Tryd.prog.underlying t=some (.slice e))(hz:Tryd.prog.cellsOf e=z)(hz0:0<z)(hl:∀a,(ec a).length=z)
 (hc:∀a,aV (ec a)=true)(hr:Rd enc W e ec):Rd enc W t (fun l:List α=>[lz z ec l]):=by
 intro n cs x h
 rcases Deep.open_slice ht h with⟨rfl,rfl⟩|⟨a,len,cap,m,n',D,Pl,rfl,_,hlc,_,hm,rfl,hx⟩
 ·exact⟨[], .cons _ _ _ _ (.sl0 _ _) .nil⟩
 ·simp only[if_true]at hm
  subst hm
  rw[hz]at hx
  rcases Nat.eq_zero_or_pos len with rfl|hpos
  ·exact⟨[], .cons _ _ _ _ (.slE _ _ _ _) .nil⟩
  ·have hx' :∀i,i<len→∃p:α×List Value,W.cells? 0 (a.add (i*z)) z=some p.2∧RepL (Ct W) rI mA (ec p.1) p.2:=fun i hi=>by
    obtain⟨cs',h1,h2⟩:=hx i (by omega)
    obtain⟨b,hb⟩:=hr _ _ _ h2
    exact⟨(b,cs'),h1,hb⟩
   obtain⟨F,hF⟩:=Deep.choose_lt hx'
   have hsp:a.spot=none:=by
    obtain⟨_,h1,h2⟩:=World.cells?_some (hF 0 hpos).1
    have h3:=h2 0 hz0
    rw[List.getElem?_eq_getElem (by omega)]at h3
    simpa[Addr.add]using World.cell?_spot h3
   obtain⟨b,off,sp⟩:=a
   simp only at hsp
   subst hsp
   refine⟨(List.range len).map (fun i=>(F i).1), .cons _ _ _ _ ?_ .nil⟩
   have hlen:((List.range len).map (fun i=>(F i).1)).length=len:=by simp
   have hg:∀i,i<len→((List.range len).map (fun i=>(F i).1)).getD i default=(F i).1:=fun i hi=>by simp[List.getD,hi]
   unfold lz
   rw[hlen]
   refine .sl z len _ b off m (fun i=>(F i).2) hlc (fun i _=>hl _) (fun i _=>hc _) (fun i hi=>by rw[hg i hi];exact(hF i hi).2) (fun i j v hi hj=> ?_)
   obtain⟨_,h1,h2⟩:=World.cells?_some (hF i hi).1
   have hjl:=(List.getElem?_eq_some_iff.1 hj).1
   have h3:=h2 j (by omega)
   rw[add_plain,add_plain,hj]at h3
   exact h3
theorem JN:Rd enc W 50 bp:=by
 intro n cs x h
 obtain⟨xs,m,rfl,rfl,hlen,hxl,hf⟩:=DataW.trod_struct Tryd.underlying50 h
 obtain⟨y0,h0⟩:=vU hf hxl 0 _ rfl
 obtain⟨y1,h1⟩:=vU hf hxl 1 _ rfl
 obtain⟨y2,h2⟩:=vU hf hxl 2 _ rfl
 obtain⟨y3,h3⟩:=vU hf hxl 3 _ rfl
 obtain⟨a0,e0,_⟩:=DataW.trod_int Tryd.underlying3 h0
 obtain⟨a1,e1,_⟩:=DataW.trod_int Tryd.underlying3 h1
 obtain⟨s,e2⟩:=KL _ _ _ h2
 obtain⟨l,e3⟩:=wF (ec:=fB) Tryd.underlying48 Fa (by decide) (fun _=>rfl) (fun _=>rfl) KT _ _ _ h3
 rw[Gw]at hlen
 rcases cs with _|⟨c0,_|⟨c1,_|⟨c2,_|⟨c3,_|⟨c4,_|⟨c5,cs⟩⟩⟩⟩⟩⟩<;>simp at hlen
 simp[sP,Av,F8,FF]at e0 e1 e2 e3
 subst e0 e1
 cases e2 with
 |cons _ _ _ _ k2 r2=>
  cases r2 with
  |cons _ _ _ _ k3 _=>
   cases e3 with
   |cons _ _ _ _ k4 _=>exact⟨⟨a0,a1,s.lo,s.hi,l⟩, .cons _ _ _ _ (.int _ _) (.cons _ _ _ _ (.int _ _) (.cons _ _ _ _ k2 (.cons _ _ _ _ k3 (.cons _ _ _ _ k4 .nil))))⟩
theorem G5:Rd enc W 24 aI:=by
 intro n cs x h
 obtain⟨xs,m,rfl,rfl,hlen,hxl,hf⟩:=DataW.trod_struct Tryd.underlying24 h
 obtain⟨y0,h0⟩:=vU hf hxl 0 _ rfl
 obtain⟨y1,h1⟩:=vU hf hxl 1 _ rfl
 obtain⟨y2,h2⟩:=vU hf hxl 2 _ rfl
 obtain⟨y3,h3⟩:=vU hf hxl 3 _ rfl
 obtain⟨a0,e0,_⟩:=DataW.trod_int Tryd.underlying3 h0
 obtain⟨a1,e1,_⟩:=DataW.trod_int Tryd.underlying3 h1
 obtain⟨a2,e2,_⟩:=DataW.trod_int Tryd.underlying3 h2
 obtain⟨l,e3⟩:=wF (ec:=bp) Tryd.underlying22 Gw (by decide) (fun _=>rfl) (fun _=>rfl) JN _ _ _ h3
 rw[KY]at hlen
 rcases cs with _|⟨c0,_|⟨c1,_|⟨c2,_|⟨c3,_|⟨c4,cs⟩⟩⟩⟩⟩<;>simp at hlen
 simp[sP,Av,F8,FF]at e0 e1 e2 e3
 subst e0 e1 e2
 cases e3 with
 |cons _ _ _ _ k3 _=>exact⟨⟨a0,a1,a2,l⟩, .cons _ _ _ _ (.int _ _) (.cons _ _ _ _ (.int _ _) (.cons _ _ _ _ (.int _ _) (.cons _ _ _ _ k3 .nil)))⟩
theorem DC{v:Value}{d:DataW H}{ps:List MemPlace}{base:Nat}(hv:Value.okWide Tryd.prog W .any base 24 v)(h:DataW.Trod enc Tryd.prog W 0 (fun _=>true) true 24 v d ps):
 ∃c:Convoy,cS (Ct W) rI mA (.agg (aI c)) v:=by
 simp only[Value.okWide,Tryd.underlying24]at hv
 obtain⟨cs,rfl,_⟩:=hv
 obtain⟨n,hn⟩:=h
 obtain⟨c,hc⟩:=G5 _ _ _ hn
 have:=cS.agg _ _ hc
 simp[Value.cells]at this
 exact⟨c,this⟩
theorem Bi{v:Value}{d:DataW H}{ps:List MemPlace}{base:Nat}(hv:Value.okWide Tryd.prog W .any base 31 v)(h:DataW.Trod enc Tryd.prog W 0 (fun _=>true) true 31 v d ps):
 ∃l:List Int,cS (Ct W) rI mA (lz 1 fy l) v:=by
 obtain⟨n,hn⟩:=h
 obtain⟨l,hl⟩:=wF (ec:=fy) Tryd.underlying31 sP (by decide) (fun _=>rfl) (fun _=>rfl) N4 _ _ _ hn
 obtain⟨a0,len,cap,rfl⟩:=okWide_slice Tryd.underlying31 hv
 cases hl with
 |cons _ _ _ _ k _=>exact⟨l,k⟩
end
theorem KQ{W:World}(h:laidMetH Tryd.prog [("sastrugi/convoy.cases",Rows.laid_sastrugi_convoy_cases)] W):jD cK (Ct W):=by
 have h' :laidMet Tryd.prog [("sastrugi/convoy.cases",Rows.laid_sastrugi_convoy_cases)] W:=h
 obtain⟨ps,⟨g,t,cs,fuel,p,q,hg,ht,hvar,hd,_,_⟩,_⟩:=h'
 have hg0:Tryd.prog.globalNamed "sastrugi/convoy.cases" =some 0:=by kernel_rfl
 have ht0:(Tryd.prog.globals[0]?).map (·.type)=some 103:=by kernel_rfl
 obtain rfl:=Option.some.inj (hg0.symm.trans hg)
 obtain rfl:=Option.some.inj (ht0.symm.trans ht)
 obtain⟨xs,m,rfl,hx,hlen,hxl,he⟩:=DataW.trod_array Tryd.underlying103 hd
 have hx1:=congrArg Prod.fst hx
 simp only[Rows.laid_sastrugi_convoy_cases,DataW.agg.injEq]at hx1
 rw[Kc]at hlen
 rw[B2]at he
 have row:∀i a b,i<4→(xs.map (·.1))[i]? =some (.agg [.lit (.int .i64 a), .lit (.int .i64 b)])→(cs.toList.drop (i*2)).take 2=[Value.int .i64 a,Value.int .i64 b]:=fun i a b hi hi2=>by
  rw[List.getElem?_map]at hi2
  obtain⟨y,hy,hy2⟩:=Option.map_eq_some_iff.1 hi2
  have h1:=he i hi
  rw[hy]at h1
  obtain⟨d,p'⟩:=y
  simp only at hy2
  subst hy2
  exact Lib.cells_of_tab (zs:=[a,b]) Tryd.underlying102 Tryd.underlying3 sP B2 h1
 rw[←hx1]at row
 have r0:=row 0 0 0 (by decide) rfl
 have r1:=row 1 1 0 (by decide) rfl
 have r2:=row 2 0 1 (by decide) rfl
 have r3:=row 3 1 1 (by decide) rfl
 have hcell:∀j,W.cell? ⟨0,j,none⟩=cs.toList[j]? :=fun j=>by rw[World.var?_cell hg hvar j];simp
 generalize cs.toList=l at hlen r0 r1 r2 r3 hcell
 rcases l with _|⟨c0,_|⟨c1,_|⟨c2,_|⟨c3,_|⟨c4,_|⟨c5,_|⟨c6,_|⟨c7,_|⟨c8,l⟩⟩⟩⟩⟩⟩⟩⟩⟩<;>simp at hlen
 simp at r0 r1 r2 r3
 obtain⟨rfl,rfl⟩:=r0
 obtain⟨rfl,rfl⟩:=r1
 obtain⟨rfl,rfl⟩:=r2
 obtain⟨rfl,rfl⟩:=r3
 intro g l hl
 show _
 have hl' :BH g=some l:=hl
 unfold BH at hl'
 split at hl'
 ·simp only[Option.some.injEq]at hl'
  subst hl'
  refine⟨rfl,_, ?_,fun j v hj=>by rw[show Ct W 0 j=_ from hcell j];exact hj⟩
  exact .cons _ _ _ _ (.int _ _) (.cons _ _ _ _ (.int _ _) (.cons _ _ _ _ (.int _ _) (.cons _ _ _ _ (.int _ _) (.cons _ _ _ _ (.int _ _) (.cons _ _ _ _ (.int _ _) (.cons _ _ _ _ (.int _ _) (.cons _ _ _ _ (.int _ _) .nil)))))))
 ·cases hl'
theorem laidOut:laidOutB Tryd.prog=true:=by kernel_rfl
theorem own:ownKnob Tryd.prog.godebug=none:=by kernel_rfl
theorem pI{H:Type}{enc:TypeId×Value→H}{W W' :World}{sp' :Nat→Bool}(hb:Below W.heap.size W W'):∀{ts:List TypeId} {vs:List Value} {ds:List (DataW H)} {ps:List MemPlace},
 (∀t∈ts,Tryd.prog.readableRec t=true∧t<Tryd.prog.types.size)→DataW.TrodAll enc Tryd.prog W 0 (fun _=>true) true ts vs ds ps→(∀p∈ps,p.block<W.heap.size)→(∀p∈ps,sp' p.block=true)→
 DataW.TrodAll enc Tryd.prog W' 0 sp' true ts vs ds ps
 |[],[],[],_,_,h,_,_=>h
 |_::_,_::_,_::_,_,hT,⟨p,q,h1,h2,e⟩,hlt,hs=>⟨p,q,
   WideElems.Trod_stays laidOut (hT _ (List.mem_cons_self ..)).1 (hT _ (List.mem_cons_self ..)).2 h1 (fun x hx=>hb.same (hlt x (by rw[e];exact List.mem_append_left _ hx))) (fun x hx=>hs x (by rw[e];exact List.mem_append_left _ hx)),
   pI hb (fun t ht=>hT t (List.mem_cons_of_mem _ ht)) h2 (fun x hx=>hlt x (by rw[e];exact List.mem_append_right _ hx)) (fun x hx=>hs x (by rw[e];exact List.mem_append_right _ hx)),e⟩
theorem Jf{H:Type}{enc:TypeId×Value→H}{f:Func}{s:ChangeSpec}{W W' :World}{args:Array Value}{ds gs:List (DataW H)}{before:List MemPlace}
 (hW:DataW.Whole enc Tryd.prog f.params.toList s.vars false W args.toList ds gs before)(hv:s.vars=[])(hb:Below W.heap.size W W')
 (hT:∀t∈f.params.toList,Tryd.prog.readableRec t=true∧t<Tryd.prog.types.size)(hrt:f.resultTypes= #[4])
 (hr:(s.fn H (ds++gs)).results=[.lit (.bool true)])(ha:(s.fn H (ds++gs)).args=ds)(hvs:(s.fn H (ds++gs)).vars=[]):
 s.post enc Tryd.prog f false true false false W args (.bool true) W' :=by
 have hlt:=hW.lt
 have hW2:=hW
 obtain⟨p,q,hA,hV,rfl,_,_⟩:=hW
 rw[hv]at hV
 obtain⟨rfl,rfl⟩:=trodVars_none hV
 refine⟨ds,[],p++[],[],p,[],hW2, ?_, ?_, ?_,hb.frame _,fun h=>by cases h⟩
 ·rw[hr,hrt]
  exact trodAll_mk1 (shut_bool Tryd.underlying4 _)
 ·rw[ha]
  exact pI hb hT hA (fun x hx=>hlt x (by simpa using hx)) (fun x hx=>by simpa using hlt x (by simpa using hx))
 ·rw[hvs,hv];rfl
noncomputable def sH(os:Os):World:=
 {World.holding Tryd.prog os ⟨#[], #[],[]⟩with heap:=(World.holding Tryd.prog os ⟨#[], #[],[]⟩).heap.modify 0 fun
  | .cells _ t frozen=> .cells #[.int .i64 0, .int .i64 0, .int .i64 1, .int .i64 0, .int .i64 0, .int .i64 1, .int .i64 1, .int .i64 1] t frozen
  |o=>o}
def QC:Value:= .agg #[.int .i64 0, .int .i64 0, .int .i64 0, .slice none 0 0]
end Go.Proofs.YtafnhieaeejlcaaDoor
namespace Go.Proofs.YtafnhieaeejlcaaDoor
open Go Go.Ab Go.ChangeShapes Go.WideShapes Go.ChangeAt Go.RowKit
set_option linter.all false
set_option maxRecDepth 100000
theorem BC{κ:Nat→Nat→Option Value}{γ:Nat→Nat}{sv:Nat→Value}{W:World}{base:Nat}{v:Value}{l:List Int}(hv:Value.okWide Tryd.prog W .any base 31 v)(h:cS κ γ sv (lz 1 fy l) v):l.length≤9223372036854775807:=by
 unfold lz at h
 generalize hn:l.length=n at h
 cases h with
 |sl0=>omega
 |slE=>omega
 |sl _ _ _ b off cap u hc=>
  simp only[Value.okWide,Cell.okWide,Cell.ok,Tryd.underlying31]at hv
  have h1:=hv.2.1
  have h2:IntKind.i64.max=9223372036854775807:=by decide
  rw[h2]at h1
  omega
section
variable {H:Type} {enc:TypeId×Value→H} {W:World}
end
end Go.Proofs.YtafnhieaeejlcaaDoor
