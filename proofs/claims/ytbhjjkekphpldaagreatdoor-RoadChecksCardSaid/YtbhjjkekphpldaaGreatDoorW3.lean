/- Walks by computing: what each function of the program that the laws reach gives for what it gets, as plain Lean, and that it is so; without a condition but those that stand in each theorem. -/
import Derived.MapKept
import Derived.MapFrom
import Derived.Carry
import Derived.Scope
import Derived.Lib.AppendStr
import Derived.Laws.Concat
import Derived.Test.YtbhjjkekphpldaaGreatDoorW1
import Derived.Test.YtbhjjkekphpldaaGreatDoorW2
set_option linter.all false
namespace Go.Ab
open Go Go.RowKit
set_option linter.all false
def lY:List (Int×Int)→Int→Option Int
 |[],_=>none
 |p::l,n=>bif decide (p.1=n) then some p.2 else lY l n
def Ad:List (Int×Int)→Int→Int→List (Int×Int)
 |[],n,v=>[(n,v)]
 |p::l,n,v=>bif decide (p.1=n) then (n,v)::l else p::Ad l n v
def Nk (l:List (Int×Int)) (n:Int):Int:=(lY l n).getD 0
def Nl (l:List (Int×Int)) (n:Int):Bool:=(lY l n).isSome
def xG:List (Int×Int)→Int→Nat
 |[],_=>0
 |p::l,n=>bif decide (p.1=n) then 0 else xG l n+1
abbrev yq (p:Int×Int):Value×Value:=(Value.int .i64 p.1,Value.int .i64 p.2)
theorem xt:∀ {es:List MapEntry}{l:List (Int×Int)},es.map (fun e=>(e.key,e.val))=l.map yq→∀ (n:Int) (i:Nat),
  Instr.findNow (.int .i64) (.int .i64 n) es i=some (match lY l n with|some v=>some (i+xG l n,.int .i64 v)|none=>none)
 |[],[],_,n,i=>rfl
 |[],_::_,h,n,i=>by cases h
 |_::_,[],h,n,i=>by cases h
 |e::es,p::l,h,n,i=>by
  simp only[List.map_cons,List.cons.injEq,Prod.mk.injEq]at h
  obtain ⟨⟨h1,h2⟩,h3⟩:=h
  have ih:=xt h3 n (i+1)
  simp only[Instr.findNow,h1,h2,Instr.sameNow,lY,xG]
  by_cases hp:p.1=n
  ·simp[hp]
  ·have:(n == p.1)=false:=by simpa using fun e=>hp e.symm
   simp only[this,hp,decide_false,cond_false,if_true]
   rw[ih]
   cases lY l n with
   |none=>rfl
   |some v=>simp;omega
theorem Q7:∀ {es:List MapEntry}{l:List (Int×Int)},es.map (fun e=>(e.key,e.val))=l.map yq→∀ {n v:Int},lY l n=some v→∃ e,es[xG l n]?=some e∧e.key=.int .i64 n
 |[],[],_,n,v,h=>by cases h
 |[],_::_,h,n,v,_=>by cases h
 |_::_,[],h,n,v,_=>by cases h
 |e::es,p::l,h,n,v,hf=>by
  simp only[List.map_cons,List.cons.injEq,Prod.mk.injEq]at h
  obtain ⟨⟨h1,h2⟩,h3⟩:=h
  simp only[lY,xG]at hf ⊢
  by_cases hp:p.1=n
  ·simp only[hp,decide_true,cond_true]
   exact⟨e,by simp,by rw[h1,hp]⟩
  ·simp only[hp,decide_false,cond_false]at hf ⊢
   obtain ⟨e',q1,q2⟩:=Q7 h3 hf
   exact⟨e',by simpa using q1,q2⟩
theorem Nn:∀ {es:List MapEntry}{l:List (Int×Int)},es.map (fun e=>(e.key,e.val))=l.map yq→∀ {n v:Int} (x:Int),lY l n=some v →
  (es.modify (xG l n) fun e=>{ e with key:=.int .i64 n,val:=.int .i64 x }).map (fun e=>(e.key,e.val))=(Ad l n x).map yq
 |[],[],_,n,v,x,h=>by cases h
 |[],_::_,h,n,v,x,_=>by cases h
 |_::_,[],h,n,v,x,_=>by cases h
 |e::es,p::l,h,n,v,x,hf=>by
  have h':=h
  simp only[List.map_cons,List.cons.injEq,Prod.mk.injEq]at h
  obtain ⟨⟨h1,h2⟩,h3⟩:=h
  simp only[lY,xG,Ad]at hf ⊢
  by_cases hp:p.1=n
  ·simp only[hp,decide_true,cond_true,List.modify_zero_cons,List.map_cons]
   rw[h3]
  ·simp only[hp,decide_false,cond_false,List.modify_succ_cons,List.map_cons]at hf ⊢
   rw[Nn h3 x hf,h1,h2]
theorem ID:∀ {es:List MapEntry}{l:List (Int×Int)},es.map (fun e=>(e.key,e.val))=l.map yq→∀ {n x:Int} (b:Nat),lY l n=none →
  (es++[({ key:=.int .i64 n,val:=.int .i64 x,born:=b }:MapEntry)]).map (fun e:MapEntry=>(e.key,e.val))=(Ad l n x).map yq
 |[],[],_,n,x,b,_=>rfl
 |[],_::_,h,n,x,b,_=>by cases h
 |_::_,[],h,n,x,b,_=>by cases h
 |e::es,p::l,h,n,x,b,hf=>by
  simp only[List.map_cons,List.cons.injEq,Prod.mk.injEq]at h
  obtain ⟨⟨h1,h2⟩,h3⟩:=h
  simp only[lY,Ad]at hf ⊢
  by_cases hp:p.1=n
  ·simp only[hp,decide_true,cond_true]at hf;cases hf
  ·simp only[hp,decide_false,cond_false,List.cons_append,List.map_cons]at hf ⊢
   rw[ID h3 b hf,h1,h2]
def fP:List (ByteArray×Value)→ByteArray→Option (Nat×Value)
 |[],_=>none
 |p::l,s=>bif s == p.1 then some (0,p.2) else (fP l s).map fun q=>(q.1+1,q.2)
abbrev kS (p:ByteArray×Value):Value×Value:=(Value.string p.1,p.2)
theorem zD:∀ {es:List MapEntry}{l:List (ByteArray×Value)},es.map (fun e=>(e.key,e.val))=l.map kS→∀ (s:ByteArray) (i:Nat),
  Instr.findNow .string (.string s) es i=some ((fP l s).map fun q=>(i+q.1,q.2))
 |[],[],_,s,i=>rfl
 |[],_::_,h,s,i=>by cases h
 |_::_,[],h,s,i=>by cases h
 |e::es,p::l,h,s,i=>by
  simp only[List.map_cons,List.cons.injEq,Prod.mk.injEq]at h
  obtain ⟨⟨h1,h2⟩,h3⟩:=h
  have ih:=zD h3 s (i+1)
  simp only[Instr.findNow,h1,h2,Instr.sameNow,fP]
  cases hp:(s == p.1) with
  |true=>rfl
  |false =>
   simp only[cond_false]
   rw[ih]
   cases fP l s with
   |none=>rfl
   |some q=>simp;omega
structure A8 (P:Program) (t:TypeId):Prop where
 ty:∃ k e i,P.underlying t=some (.map k e)∧P.underlying k=some (.int .i64)∧P.info? e=some i∧i.zero=some (.int .i64 0)
structure ahj (P:Program) (t:TypeId):Prop where
 ty:∃ k e i z,P.underlying t=some (.map k e)∧P.underlying k=some .string∧P.info? e=some i∧i.zero=some z
section
variable {P:Program}{w:World}{t:TypeId}{b:Nat}{es:Array MapEntry}{c:Nat}{l:List (Int×Int)}
theorem Ps (ht:A8 P t) (hb:w.heap[b]?=some (.map es c)) (hm:pY es (l.map yq)) (n:Int):(Instr.lookup t (.map (some b)) (.int .i64 n) true).run P w=.ok (.tuple #[.int .i64 (Nk l n),.bool (Nl l n)]) w:=by
 obtain ⟨k,e,i,h1,h2,h3,h4⟩:=ht
 have hk:MapKept.IsKey (.int .i64) (.int .i64 n):=rfl
 have hf:=xt (es:=es.toList) (l:=l) hm n 0
 cases hq:lY l n with
 |none =>
  rw[hq]at hf
  simp[Instr.lookup,run_underlying h1,MapKept.run_getObj_map hb,MapKept.run_checkKey h2 hk,MapKept.run_findKey h2 hf,Result.andThen,zeroValue,typeInfo,h3,h4,Nk,Nl,hq]
 |some v =>
  rw[hq]at hf
  simp[Instr.lookup,run_underlying h1,MapKept.run_getObj_map hb,MapKept.run_checkKey h2 hk,MapKept.run_findKey h2 hf,Result.andThen,Nk,Nl,hq]
theorem Pt (ht:A8 P t) (hb:w.heap[b]?=some (.map es c)) (hm:pY es (l.map yq)) (n x:Int):∃ zy c',(Instr.mapUpdate t (.map (some b)) (.int .i64 n) (.int .i64 x)).run P w=.ok () { w with heap:=w.heap.setIfInBounds b (.map zy c') }∧pY zy ((Ad l n x).map yq):=by
 obtain ⟨k,e,i,h1,h2,h3,h4⟩:=ht
 have hk:MapKept.IsKey (.int .i64) (.int .i64 n):=rfl
 have hf:=xt (es:=es.toList) (l:=l) hm n 0
 cases hq:lY l n with
 |none =>
  rw[hq]at hf
  refine ⟨es.push { key:=.int .i64 n,val:=.int .i64 x,born:=c },c+1,?_,?_⟩
  ·simp[Instr.mapUpdate,run_underlying h1,MapKept.run_getObj_map hb,MapKept.run_checkKey h2 hk,MapKept.run_findKey h2 hf,Result.andThen,MapKept.run_setObj_map _ hb]
  ·have:=ID (es:=es.toList) (l:=l) hm (x:=x) c hq
   unfold pY
   rw[Array.toList_push];exact this
 |some v =>
  rw[hq]at hf
  obtain ⟨e0,q1,q2⟩:=Q7 (es:=es.toList) (l:=l) hm hq
  have hj:es[xG l n]?=some e0:=by simpa using q1
  refine ⟨es.modify (xG l n) fun e=>{ e with key:=.int .i64 n,val:=.int .i64 x },c,?_,?_⟩
  ·simp[Instr.mapUpdate,run_underlying h1,MapKept.run_getObj_map hb,MapKept.run_checkKey h2 hk,MapKept.run_findKey h2 hf,hj,q2,MapKept.run_keyThatStays hk,Result.andThen,MapKept.run_setObj_map _ hb]
  ·have:=Nn (es:=es.toList) (l:=l) hm x hq
   unfold pY
   rw[Array.toList_modify];exact this
end
section
variable {P:Program}{w:World}{t:TypeId}{b:Nat}{es:Array MapEntry}{c:Nat}{l:List (ByteArray×Value)}
theorem ab8 (ht:ahj P t) (hb:w.heap[b]?=some (.map es c)) (hm:pY es (l.map kS)) (s:ByteArray) (x:Value) (hn:fP l s=none):∃ zy c',(Instr.mapUpdate t (.map (some b)) (.string s) x).run P w=.ok () { w with heap:=w.heap.setIfInBounds b (.map zy c') }∧pY zy ((l++[(s,x)]).map kS):=by
 obtain ⟨k,e,i,z,h1,h2,h3,h4⟩:=ht
 have hk:MapKept.IsKey .string (.string s):=trivial
 have hf:=zD (es:=es.toList) (l:=l) hm s 0
 rw[hn]at hf
 refine ⟨es.push { key:=.string s,val:=x,born:=c },c+1,?_,?_⟩
 ·simp[Instr.mapUpdate,run_underlying h1,MapKept.run_getObj_map hb,MapKept.run_checkKey h2 hk,MapKept.run_findKey h2 hf,Result.andThen,MapKept.run_setObj_map _ hb]
 ·have hm':es.toList.map (fun e=>(e.key,e.val))=l.map kS:=hm
  unfold pY
  rw[Array.toList_push,List.map_append,List.map_append,hm'];rfl
end
section
variable {X:Ctx}{S:St}{o:Oper}
theorem By {κ:Nat→Nat→Option Value}{sv:Nat→Value}{a:Act}{w:World} (hs:bk X κ sv S a w) {x:Operand}{s g:Nat}{l:List (Value×Value)} (hx:S.ev X x=.os s g) (dk:S.γ s=g) (aF:S.σ s=.mp l) :
  ∃ b es c,a.eval x=.map (some b)∧sv s=.map (some b)∧w.heap[b]?=some (.map es c)∧pY es l:=by
 have h1:=hs.ev x
 rw[hx]at h1
 have h2:=hs.aJ.own s
 rw[aF]at h2
 obtain ⟨b,es,c,e1,e2,e3⟩:=h2
 generalize a.eval x=v at h1
 cases h1 with
 |os _ _ _ _ hh _=>exact⟨b,es,c,by rw[hh dk.symm,e1],e1,e2,e3⟩
def Dr (P:Program) (t:TypeId):Option Value:=match P.underlying t with
 |some (.map k e)=>(match P.underlying k,P.info? e with
  |some .string,some i=>i.zero
  |_,_=>none)
 |_=>none
theorem Q8 {P:Program}{t:TypeId}{z:Value} (h:Dr P t=some z):∃ k e i,P.underlying t=some (.map k e)∧P.underlying k=some .string∧P.info? e=some i∧i.zero=some z:=by
 unfold Dr at h
 split at h
 ·rename_i k e hu
  split at h
  ·rename_i i hk he;exact⟨k,e,i,hu,hk,he,h⟩
  ·cases h
 ·cases h
theorem Ru {T:TypeId}{x y:Operand}{m g:Nat}{l:List (ByteArray×Value)}{s:ByteArray}{z v:Value}{d:D}{ok:Bool} (ht:Dr X.Z.P T=some z) (ho:o.op=.lookup T x y ok) (hx:S.ev X x=.os m g) (dk:S.γ m=g) (aF:S.σ m=.mp (l.map kS)) (hy:S.ev X y=.str s)
  (hv:((fP l s).map (·.2)).getD z=v) (hd:∀ κ γ sv,aW κ γ sv d v):dy X o S (bif ok then .bn [d,.bool (fP l s).isSome] else d):=fun κ sv a w hs=>by
 obtain ⟨b,es,c,h1,h2,h3,h4⟩:=By hs hx dk aF
 have eB:=hs.ev y
 rw[hy]at eB
 generalize fG:a.eval y=yv at eB
 cases eB
 obtain ⟨k,e,i,q1,q2,q3,q4⟩:=Q8 ht
 have hk:MapKept.IsKey .string (.string s):=trivial
 have hq:=zD (es:=es.toList) (l:=l) h4 s 0
 have run:∀ w':World,w'.heap[b]?=some (.map es c)→(Instr.lookup T (.map (some b)) (.string s) ok).run X.Z.P w'=.ok (bif ok then .tuple #[v,.bool (fP l s).isSome] else v) w':=fun w' bz=>by
  cases hf:fP l s with
  |none =>
   rw[hf]at hq hv
   simp only[Option.map_none,Option.getD_none]at hv
   subst hv
   cases ok<;>simp[Instr.lookup,run_underlying q1,MapKept.run_getObj_map bz,MapKept.run_checkKey q2 hk,MapKept.run_findKey q2 hq,Result.andThen,zeroValue,typeInfo,q3,q4]
  |some p =>
   rw[hf]at hq hv
   simp only[Option.map_some,Option.getD_some]at hv
   subst hv
   cases ok<;>simp[Instr.lookup,run_underlying q1,MapKept.run_getObj_map bz,MapKept.run_checkKey q2 hk,MapKept.run_findKey q2 hq,Result.andThen]
 refine ⟨bif ok then .tuple #[v,.bool (fP l s).isSome] else v,?_,fun w' hb=>?_⟩
 ·cases ok
  ·exact hd _ _ _
  ·exact .bn _ [v,Value.bool _] (.cons _ _ _ _ (hd _ _ _) (.cons _ _ _ _ (.bool _) .nil))
 ·have bz:w'.heap[b]?=some (.map es c):=by rw[hb.block b (Array.getElem?_eq_some_iff.1 h3).1];exact h3
  have:=run w' bz
  simp[execOp,ho,h1,fG,this]
theorem Ym {T:TypeId}{x y z:Operand}{m g:Nat}{l:List (ByteArray×Value)}{s:ByteArray}{z0 v:Value}{d:D} (ht:Dr X.Z.P T=some z0) (ho:o.op=.mapUpdate T x y z∨o.op=.insert T x y z) (hd:o.dst=none) (hx:S.ev X x=.os m g) (dk:S.γ m=g) (aF:S.σ m=.mp (l.map kS)) (hy:S.ev X y=.str s) (hz:S.ev X z=d)
  (hv:∀ κ γ sv u,aW κ γ sv d u→u=v) (hn:fP l s=none):kf X o S ⟨S.ρ,S.γ,aG S.σ m (.mp ((l++[(s,v)]).map kS))⟩:=fun κ sv a w hs=>by
 obtain ⟨b,es,c,h1,h2,h3,h4⟩:=By hs hx dk aF
 have eB:=hs.ev y
 rw[hy]at eB
 generalize fG:a.eval y=yv at eB
 cases eB
 have j0:=hs.ev z
 rw[hz]at j0
 have hze:=hv _ _ _ _ j0
 obtain ⟨k,e,i,q1,q2,q3,q4⟩:=Q8 ht
 obtain ⟨zy,c',r1,r2⟩:=ab8 ⟨k,e,i,z0,q1,q2,q3,q4⟩ h3 h4 s v hn
 have cG:w.grownBy { w with heap:=w.heap.setIfInBounds b (.map zy c') } (some b):=by
  refine ⟨rfl,rfl,rfl,by simp,fun k hk cx=>?_⟩
  have:k≠b:=fun e=>cx (by rw[e])
  exact(MapKept.heap_set h3).2 k this
 have ed:aL (S.σ m) (sv m)=some b:=by rw[aF,h2];rfl
 rw[hd]
 refine ⟨Go.undef,_,κ,sv,.inr ⟨?_,rfl⟩,⟨hs.size,ib hs m (by rw[ed];exact cG),hs.slot,?_⟩⟩
 ·rcases ho with ho|ho<;>simp[execOp,ho,h1,fG,hze,r1,Result.andThen]
 ·refine hs.aJ.rewrite m (.mp _) (by rw[ed];exact cG) (by rw[aF,h2];rfl) ⟨b,zy,c',h2,(MapKept.heap_set h3).1,r2⟩ _
theorem abX {T:TypeId}{x y:Operand}{s g:Nat}{l:List (Int×Int)}{n:Int} (ht:A8 X.Z.P T) (ho:o.op=.lookup T x y true) (hx:S.ev X x=.os s g) (dk:S.γ s=g) (aF:S.σ s=.mp (l.map yq)) (hy:S.ev X y=.int .i64 n) :
  dy X o S (.bn [.int .i64 (Nk l n),.bool (Nl l n)]):=fun κ sv a w hs=>by
 obtain ⟨b,es,c,h1,h2,h3,h4⟩:=By hs hx dk aF
 have eB:=hs.ev y
 rw[hy]at eB
 generalize fG:a.eval y=v at eB
 cases eB
 refine ⟨_,.bn _ _ (.cons _ _ _ _ (.int _ _) (.cons _ _ _ _ (.bool _) .nil)),fun w' hb=>?_⟩
 have bz:w'.heap[b]?=some (.map es c):=by rw[hb.block b (Array.getElem?_eq_some_iff.1 h3).1];exact h3
 simp[execOp,ho,h1,fG,Ps ht bz h4]
theorem Pk {T:TypeId}{x y z:Operand}{s g:Nat}{l:List (Int×Int)}{n v:Int} (ht:A8 X.Z.P T) (ho:o.op=.mapUpdate T x y z∨o.op=.insert T x y z) (hd:o.dst=none) (hx:S.ev X x=.os s g) (dk:S.γ s=g) (aF:S.σ s=.mp (l.map yq)) (hy:S.ev X y=.int .i64 n) (hz:S.ev X z=.int .i64 v) :
  kf X o S ⟨S.ρ,S.γ,aG S.σ s (.mp ((Ad l n v).map yq))⟩:=fun κ sv a w hs=>by
 obtain ⟨b,es,c,h1,h2,h3,h4⟩:=By hs hx dk aF
 have eB:=hs.ev y
 rw[hy]at eB
 generalize fG:a.eval y=yv at eB
 cases eB
 have j0:=hs.ev z
 rw[hz]at j0
 generalize hze:a.eval z=zv at j0
 cases j0
 obtain ⟨zy,c',r1,r2⟩:=Pt ht h3 h4 n v
 have cG:w.grownBy { w with heap:=w.heap.setIfInBounds b (.map zy c') } (some b):=by
  refine ⟨rfl,rfl,rfl,by simp,fun k hk cx=>?_⟩
  have:k≠b:=fun e=>cx (by rw[e])
  exact(MapKept.heap_set h3).2 k this
 have ed:aL (S.σ s) (sv s)=some b:=by rw[aF,h2];rfl
 rw[hd]
 refine ⟨Go.undef,_,κ,sv,.inr ⟨?_,rfl⟩,⟨hs.size,ib hs s (by rw[ed];exact cG),hs.slot,?_⟩⟩
 ·rcases ho with ho|ho<;>simp[execOp,ho,h1,fG,hze,r1,Result.andThen]
 ·refine hs.aJ.rewrite s (.mp _) (by rw[ed];exact cG) (by rw[aF,h2];rfl) ⟨b,zy,c',h2,(MapKept.heap_set h3).1,r2⟩ _
theorem rV {P:Program}{w:World}{T e:TypeId} (hu:P.underlying T=some (.slice e)) (a:Option Addr) (n c:Nat):(binOp .eql T (.slice a n c) (.slice none 0 0)).run P w=.ok (.bool a.isNone) w:=by
 have h:(Op.equal T (.slice a n c) (.slice none 0 0)).run P w=.ok a.isNone w:=by
  unfold Op.equal
  have:Op.maxDepth=9999+1:=rfl
  rw[this]
  unfold Op.equalIn
  simp only[Sem.run_bind,run_underlying hu,Result.andThen_ok]
  cases a<;>rfl
 have h2:binOp .eql T (.slice a n c) (.slice none 0 0)=(do pure (.bool (← Op.equal T (.slice a n c) (.slice none 0 0)))):=rfl
 rw[h2]
 simp[h]
theorem ZY {Q:Exit→St→Prop}{ops:Array Oper}{rest:List Oper}{T T2:TypeId}{x y:Operand}{t:Nat}{z n:Nat}{f:Nat→List D}{r:dM} (hg:o.guard=none) (ho:o.op=.binOp .eql T x y T2) (hd:o.dst=some t) (hr:nth X.Z.bL T=some r) (hk:Nat.beq r.k 3=true) (hx:S.ev X x=.sl z n f) (hy:S.ev X y=.nil)
  (ht:n=0→WL X ops rest Q (S.set t (.bool true))) (hf:WL X ops rest Q (S.set t (.bool false))):WL X ops (o::rest) Q S:=fun κ sv a w hs=>by
 have hu:=dp (X.Z.bG _ _ hr (by intro e;rw[e]at hk;cases hk)) hk
 have h1:=hs.ev x
 rw[hx]at h1
 have h2:=hs.ev y
 rw[hy]at h2
 generalize gk:a.eval x=xv at h1
 generalize fG:a.eval y=yv at h2
 cases h2
 cases h1 with
 |sl _ _ _ b off cap u q1 q2 q3 q4 q5 =>
  refine wpListIn_plain hg fun K hK=>wv (v:=.bool false) (w':=w) ?_ ?_
  ·simp[execOp,ho,gk,fG,eqGuard,rV hu]
  ·rw[hd];exact hK _ _ (hf κ sv _ _ (hs.put (some t) (.bool _)))
 |lI =>
  refine wpListIn_plain hg fun K hK=>wv (v:=.bool true) (w':=w) ?_ ?_
  ·simp[execOp,ho,gk,fG,eqGuard,rV hu]
  ·rw[hd];exact hK _ _ (ht rfl κ sv _ _ (hs.put (some t) (.bool _)))
 |kV _ _ ad cap =>
  refine wpListIn_plain hg fun K hK=>wv (v:=.bool false) (w':=w) ?_ ?_
  ·simp[execOp,ho,gk,fG,eqGuard,rV hu]
  ·rw[hd];exact hK _ _ (hf κ sv _ _ (hs.put (some t) (.bool _)))
theorem Yl {T:TypeId}{t:Nat} (ho:o.op=.makeMap T none) (hd:o.dst=some t):kf X o S ⟨aG S.ρ t (.os t (S.γ t+1)),aG S.γ t (S.γ t+1),aG S.σ t (.mp [])⟩:=fun κ sv a w hs=>by
 have hle:=eY κ S.γ sv t (.map (some w.heap.size))
 rw[hd]
 refine ⟨.map (some w.heap.size),w.alloc (.map #[] 0),κ,aG sv t (.map (some w.heap.size)),.inl ?_,?_⟩
 ·simp[execOp,ho,run_makeMap]
 ·refine ⟨by rw[tT];exact hs.size,(ib hs t (World.grownBy_alloc w _ _)).put _ _,?_,?_⟩
  ·exact hs.AW hle (some t) (.os _ _ _ (by rw[aC];exact Nat.le_refl _) (fun _=>(aC _ _ _).symm) rfl)
  ·refine hs.aJ.renew t (.mp []) _ (World.grownBy_alloc w _ _) (fun b hb=>?_) ⟨w.heap.size,#[],0,aC _ _ _,(MapKept.heap_alloc w _).1,rfl⟩ _
   simp only[aL,Option.some.injEq]at hb
   exact .inl (by omega)
end
section
variable {F:Fence}{n:Nat}{P:Program}{Q:Exit→Act→World→Prop}{a:Act}{w:World}{b:Go.Frame}{k:List Item}{cs:List Go.Frame}
theorem lP {c:Code}:step P (lone (b.atR a (.code (.scope c)::k)) cs w)=.next (lone (b.atR a (.code c::.inScope c::k)) cs w) :=
 step_lone_go (by simp[stepG,stepG.exec,Frame.atR])
theorem Jf {c:Code}:step P (lone (b.atR a (.inScope c::k)) cs w)=.next (lone (b.atR a k) cs w) :=
 step_lone_go (by simp[stepG,stepG.exec,Frame.atR])
theorem VN {c:Code} (h:c.wpIn F n P (Exit.noGoto Q) a w):(Code.scope c).wpIn F n P Q a w:=by
 intro b k cs hro hb hr
 have h0:(lone (b.atR a (.code (.scope c)::k)) cs w).fenced P F:=fenced_calm hb hr rfl
 obtain ⟨e,KT,OQ,hq,G4⟩:=h b (.inScope c::k) cs hro hb hr
 cases e with
 |normal=>exact⟨.normal,KT,OQ,hq,.head h0 lP (StepsIn.trans G4 (.one (fenced_calm hb hr rfl) Jf))⟩
 |exit id =>
  have hx:exitTo id (.inScope c::k)=exitTo id k:=by simp[exitTo]
  exact⟨.exit id,KT,OQ,hq,fun k' hk=>.head h0 lP (G4.1 k' (by rw[hx];exact hk)),
   fun Fg hk=>let ⟨k₁,h1,h2⟩:=G4.2 Fg (by rw[hx];exact hk);⟨k₁,h1,.head h0 lP h2⟩⟩
 |goto l=>exact hq.elim
 |ret=>exact⟨_,KT,OQ,hq,.of_steps (.one h0 lP) G4⟩
 |panic ch=>exact⟨_,KT,OQ,hq,.of_steps (.one h0 lP) G4⟩
 |outgrown=>exact⟨_,KT,OQ,hq,.of_steps (.one h0 lP) G4⟩
end
theorem aeQ {X:Ctx}{Q:Exit→St→Prop}{S:St}{c:Code} (h:W X c (fun e T=>match e with|.goto _=>False|e=>Q e T) S):W X (.scope c) Q S:=fun κ sv a w hs=>by
 refine VN (wpIn_mono (h κ sv a w hs) ?_)
 rintro e a' w' ⟨aA,aQ,S',h1,h2⟩
 cases e<;>first|exact h2.elim|exact⟨aA,aQ,S',h1,h2⟩
theorem aeP {X:Ctx}{Q:Exit→St→Prop}{S:St}{l:Nat} (h:Q .normal S):W X (.label l) Q S:=fun κ sv _ _ hs=>wpIn_label ⟨κ,sv,S,hs,h⟩
end Go.Ab
namespace Go.Ab
open Go Go.RowKit
set_option linter.all false
section
variable {P:Program}{w:World}
theorem um (t u ty e:TypeId) (i:TypeInfo) (ht:P.underlying t=some (.slice e)) (hu:P.underlying u=some .string) (hi:P.info? e=some i) (MT:i.size=1)
  (g off oP DL:Nat) (cur:Array Value) (hg:w.heap[g]?=some (.cells cur e (0,0))) (s:ByteArray) (rA:oP+s.size≤DL) (Dk:off+oP+s.size≤cur.size) :
  (Builtin.append_ #[t,u] ty #[.slice (some ⟨g,off,none⟩) oP DL,.string s]).run P w =
   .ok (.slice (some ⟨g,off,none⟩) (oP+s.size) DL) (w.setRow g (cur.toList.take (off+oP)++Lib.strCells s++cur.toList.drop (off+oP+s.size)).toArray):=by
 have hf:=Lib.run_firstCells_string (P:=P) w 1 s
 have jn:=run_storeCells_at P g (off+oP) e (Lib.strCells s) 0 cur w hg (by simpa[Lib.strCells_length] using Dk) (Lib.strCells_oneCell s)
 simp only[Nat.add_zero,Lib.strCells_length]at jn
 have MB:∀ k,(⟨g,off,none⟩:Addr).add k=⟨g,off+k,none⟩:=fun k=>by unfold Addr.add;split<;>simp_all
 simp[Builtin.append_,run_underlying ht,run_underlying hu,sizeOf,typeInfo,hi,MT,Builtin.lenOf,rA,hf,MB,jn]
theorem xW (base:Nat) (t u ty e:TypeId) (i:TypeInfo) (z:Value) (ht:P.underlying t=some (.slice e)) (hu:P.underlying u=some .string) (hi:P.info? e=some i) (hz:i.zero=some z) (xC:i.size=1) (XJ:i.bytes=1) (jK:z.cells.size=1)
  (v:Value) (n:Nat) (xs:List Value) (aP:eo w base e 1 v n xs) (s:ByteArray) (QH:n+s.size≤maxLen) (tw:n+s.size≤140737488355328) (dj:base≤w.heap.size) :
  ∃ v' w',(Builtin.append_ #[t,u] ty #[v,.string s]).run P w=.ok v' w'∧eo w' base e 1 v' (n+s.size) (xs++Lib.strCells s)∧w.grownBy w' v.ownBlock ∧
   (∀ b,v'.ownBlock=some b→w.heap.size≤b∨v.ownBlock=some b):=by
 have aus:n+s.size≤9223372036854775807:=by simp only[maxLen]at QH;omega
 have bS:xs.length=n:=by simpa using aP.1
 have hlen:(xs++Lib.strCells s).length=(n+s.size) * 1:=by rw[List.length_append,bS,Lib.strCells_length,Nat.mul_one]
 have grown:∀ (nf:Nat),nf<n+s.size →
   (w.drew.alloc (.cells (xs.toArray++(Lib.strCells s).toArray++Builtin.zeroCells z.cells (grownCap w (n+s.size) nf e - (n+s.size))) e)).ownsRow w.heap.size e 1
    (.slice (some ⟨w.heap.size,0,none⟩) (n+s.size) (grownCap w (n+s.size) nf e)) (n+s.size) (xs++Lib.strCells s) ∧
   w.grownBy (w.drew.alloc (.cells (xs.toArray++(Lib.strCells s).toArray++Builtin.zeroCells z.cells (grownCap w (n+s.size) nf e - (n+s.size))) e)) v.ownBlock:=by
  intro nf ho
  refine ⟨⟨hlen,.inr ⟨w.heap.size,_,_,rfl,Nat.le_refl _,heap_alloc_new w.drew _,grownCap_ge w (n+s.size) nf e,grownCap_le_maxLen w (n+s.size) nf e QH,?_,?_⟩⟩,⟨rfl,rfl,rfl,by simp,fun k hk _=>(by first|exact heap_alloc_old w.drew _ k hk|exact heap_alloc_old w.drew _ hk)⟩⟩
  ·have:=grownCap_ge w (n+s.size) nf e
   simp only[Array.size_append,List.size_toArray,size_zeroCells,jK,bS,Lib.strCells_length]
   omega
  ·simp only[Array.toList_append,List.append_assoc]
   rw[← List.append_assoc,← hlen]
   exact List.take_left
 rcases aP.2 with ⟨rfl,rfl⟩|⟨g,off,cap,cur,rfl,QL,hg,iX,rP,jZ,gR⟩
 ·have hx:xs=[]:=List.eq_nil_of_length_eq_zero bS
  subst hx
  by_cases hm:s.size=0
  ·have hn:Lib.strCells s=[]:=List.eq_nil_of_length_eq_zero (by rw[Lib.strCells_length];exact hm)
   refine ⟨.slice none 0 0,w,?_,by rw[hm,hn];exact aP,⟨rfl,rfl,rfl,Nat.le_refl _,fun _ _ _=>rfl⟩,fun b hb=>by cases hb⟩
   have hf:=Lib.run_firstCells_string (P:=P) w 1 s
   rw[hm]at hf
   simp[Builtin.append_,run_underlying ht,run_underlying hu,sizeOf,typeInfo,hi,xC,Builtin.lenOf,hm,hf]
  ·have hr:=run_append_nil_string (P:=P) w t u ty e i z ht hu hi hz s (by omega) (by omega) (by rw[XJ];omega)
   have cG:=grown 0 (by omega)
   simp only[Nat.zero_add,List.nil_append,Array.empty_append]at cG ⊢
   have e1:(s.data.map fun b=>Value.int .u8 b.toNat)=(Lib.strCells s).toArray:=by
    apply Array.ext'
    simp[Lib.strCells]
   rw[e1]at hr
   exact⟨_,_,hr,kR (rT cG.1) dj,cG.2,fun b hb=>.inl (cG.1.lt b hb).1⟩
 ·by_cases rA:n+s.size≤cap
  ·have hr:=um (P:=P) (w:=w) t u ty e i ht hu hi xC g off n cap cur hg s rA (by omega)
   refine ⟨_,_,hr,⟨hlen,.inr ⟨g,off,cap,_,rfl,QL,setRow_heap w g cur _ e _ hg,rA,rP,?_,?_⟩⟩,⟨rfl,rfl,rfl,by simp,fun k _ hk=>setRow_other w g k _ (fun e=>hk (by simp[Value.ownBlock,e]))⟩,fun b hb=>.inr hb⟩
   ·simp only[List.size_toArray,List.length_append,List.length_take,List.length_drop,Array.length_toList,Lib.strCells_length]
    omega
   ·have e1:(cur.toList.take (off+n)++Lib.strCells s++cur.toList.drop (off+n+s.size)).drop off=(cur.toList.drop off).take (n * 1)++Lib.strCells s++cur.toList.drop (off+n+s.size):=by
     rw[List.append_assoc,List.drop_append,List.length_take,Array.length_toList,Nat.min_eq_left (by omega),show off - (off+n)=0 by omega,List.drop_zero,List.drop_take,List.append_assoc]
     rw[show off+n - off=n * 1 by omega]
    rw[List.toList_toArray,e1,gR,← hlen]
    exact List.take_left
  ·have holds:∀ j u,xs[j]?=some u→w.cell? ((⟨g,off,none⟩:Addr).add j)=some u:=aP.cells
   have hr:=Lib.run_append_grow_string (P:=P) w t u ty e i z ht hu hi hz ⟨g,off,none⟩ n cap xs (by rw[xC];simpa using bS) holds s (by omega) (by omega) (by rw[XJ];exact growslice_fits (by omega) (by omega))
   have cG:=grown cap (by omega)
   exact⟨_,_,hr,kR (rT cG.1) dj,cG.2,fun b hb=>.inl (cG.1.lt b hb).1⟩
end
section
variable {X:Ctx}{Q:Exit→St→Prop}{S:St}{ops:Array Oper}{o:Oper}{rest:List Oper}{T:TypeId}
theorem akS {x y:Operand}{s g n t n':Nat}{E T2:TypeId}{f f':Nat→List D}{b:ByteArray}{ts:Array TypeId} (ho:o.op=.call { callee:=.builtin .append,args:=#[x,y],argTypes:=ts }) (fW:ts=#[T,T2]) (hd:o.dst=some t)
  (hx:S.ev X x=.os s g) (hg:S.γ s=g) (aF:S.σ s=.arr E 1 n f) (hy:S.ev X y=.str b)
  {r q:dM} (hr:nth X.Z.bL T=some r) (hk:Nat.beq r.k 3=true) (hE:r.el=E) (Co:X.Z.P.underlying T2=some .string) (hq:nth X.Z.bL E=some q) (dF:Nat.beq q.k 9=false) (hz:q.sz=1) (nO:q.zs=[.i .u8]) (hqb:q.bytes=1)
  (hm:n+b.size≤140737488355328) (od:n'=n+b.size) (h1:∀ i,i<n→f' i=f i) (h2:∀ i,i<b.size→f' (n+i)=[.int .u8 ((b.data.toList.getD i 0).toNat:Int)]) :
  kf X o S (S.owned t s (.arr E 1 n' f')):=fun κ sv a w hs=>by
 subst fW od
 have fY:=X.Z.bG _ _ hr (by intro e;rw[e]at hk;cases hk)
 have dx:=X.Z.bG _ _ hq (by intro e;rw[e]at dF;cases dF)
 obtain ⟨iq,dq,jA,uH,kB,pO,⟨zv,j0,oe⟩,_⟩:=du dx
 have hu:=dp fY hk
 rw[hE]at hu
 have fq:=hs.aJ.own s
 rw[aF]at fq
 obtain ⟨xs,aP,gT,mS,eI⟩:=fq
 have cH:=hs.ev x
 rw[hx]at cH
 have gk:a.eval x=sv s:=by
  generalize a.eval x=v at cH
  cases cH with
  |os _ _ _ _ hh _=>exact hh hg.symm
 have eB:=hs.ev y
 rw[hy]at eB
 have fG:a.eval y=.string b:=by
  generalize a.eval y=v at eB
  cases eB;rfl
 have qv:zv.cells.size=1:=by have:=rY oe;rw[nO]at this;simpa using this
 have hle:∀ pv,Le κ κ S.γ (aG S.γ s (S.γ s+1)) sv (aG sv s pv):=eY κ S.γ sv s
 have bS:xs.length=n * 1:=aP.1
 rw[hd]
 obtain ⟨v',w',bX,eN,cG,tH⟩:=xW (P:=X.Z.P) (w:=w) (X.base s) T T2 o.type E iq zv hu Co jA j0 (by rw[kB,hz]) (by rw[pO,hqb]) qv (sv s) n xs aP b (by unfold maxLen;omega) hm (hs.aJ.lT _)
 have zT:(sv s).ownBlock=aL (S.σ s) (sv s):=by
  rw[aF]
  rcases aP.2 with ⟨e,_⟩|⟨_,_,_,_,e,_⟩<;>rw[e]<;>rfl
 rw[zT]at cG
 refine ⟨v',w',κ,_,.inl ?_,fk hs t s (pv:=v') ?_ cG (fun b' bz=>?_) ?_⟩
 ·simp[execOp,ho,resolve,invoke,builtin,gk,fG,bX]
 ·rcases eN.2 with ⟨e,_⟩|⟨_,_,_,_,e,_⟩<;>rw[e]<;>rfl
 ·rw[← zT]
  refine tH b' ?_
  rcases eN.2 with ⟨e,_⟩|⟨_,_,_,_,e,_⟩<;>(rw[e]at bz ⊢;exact bz)
 ·have ou:∀ k,k<b.size→((xs++Lib.strCells b).drop ((n+k) * 1)).take 1=[.int .u8 ((b.data.toList.getD k 0).toNat:Int)]:=fun k hk=>by
   have di:k<b.data.toList.length:=by rw[Array.length_toList];exact hk
   rw[iN bS,Nat.mul_one,Lib.strCells,List.drop_eq_getElem_cons (by simpa using di)]
   have hk3:k<b.data.size:=hk
   simp only[List.map_cons,List.map_nil,List.map_drop,List.take_succ_cons,List.take_zero,List.getElem_map,List.getD_eq_getElem?_getD,List.getElem?_eq_getElem di,Option.getD_some]
  refine ⟨_,by rw[aC];exact eN,fun i hi=>?_,fun i hi=>?_,fun i hi=>?_⟩
  ·by_cases eJ:i<n
   ·rw[h1 i eJ];exact gT i eJ
   ·obtain ⟨k,rfl⟩:∃ k,i=n+k:=⟨i - n,by omega⟩
    rw[h2 k (by omega)];rfl
  ·by_cases eJ:i<n
   ·rw[h1 i eJ];exact mS i eJ
   ·obtain ⟨k,rfl⟩:∃ k,i=n+k:=⟨i - n,by omega⟩
    rw[h2 k (by omega)];rfl
  ·by_cases eJ:i<n
   ·rw[h1 i eJ,gJ bS eJ];exact(eI i eJ).mono (hle _)
   ·obtain ⟨k,rfl⟩:∃ k,i=n+k:=⟨i - n,by omega⟩
    rw[h2 k (by omega),ou k (by omega)]
    exact .cons _ _ _ _ (.int _ _) .nil
def KY (a b:ByteArray):ByteArray:=⟨(a.data.toList++b.data.toList).toArray⟩
theorem aeY (a b:ByteArray):KY a b=a++b:=by
 apply ByteArray.ext
 simp[KY,ByteArray.data_append]
theorem alh {x y:Operand}{T2:TypeId}{a b:ByteArray} (ho:o.op=.binOp .add T x y T2) (hx:S.ev X x=.str a) (hy:S.ev X y=.str b) (hn:a.size+b.size≤9223372036854775807):dy X o S (.str (KY a b)):=fun κ sv act w hs=>by
 have cH:=hs.ev x
 rw[hx]at cH
 have gk:act.eval x=.string a:=by
  generalize act.eval x=v at cH
  cases cH;rfl
 have eB:=hs.ev y
 rw[hy]at eB
 have fG:act.eval y=.string b:=by
  generalize act.eval y=v at eB
  cases eB;rfl
 refine ⟨.string (KY a b),.str _,fun w' _=>?_⟩
 rw[aeY]
 simp only[execOp,ho,gk,fG]
 simp[eqGuard,binOp,run_string_add_sum w' a b hn]
def OJ (s:ByteArray) (i j:Nat):ByteArray:=⟨((s.data.toList.take j).drop i).toArray⟩
theorem ag3 (s:ByteArray) (i j:Nat):s.extract i j=OJ s i j:=by
 apply ByteArray.ext
 apply Array.toList_inj.1
 simp[OJ,ByteArray.data_extract,List.drop_take]
theorem aoe {x:Operand}{lo hi:Option Operand}{s:ByteArray}{i j:Nat} (ho:o.op=.slice T x lo hi none) (hx:S.ev X x=.str s) (zR:sd X S lo i 0) (zQ:sd X S hi j s.size) (yn:i≤j) (hjn:j≤s.size) (hu:X.Z.P.underlying T=some .string):dy X o S (.str (OJ s i j)):=fun κ sv act w hs=>by
 have cH:=hs.ev x
 rw[hx]at cH
 have gk:act.eval x=.string s:=by
  generalize act.eval x=v at cH
  cases cH;rfl
 refine ⟨.string (OJ s i j),.str _,fun w' _=>?_⟩
 have h1:=zR.v hs
 have h2:=zQ.v hs
 rw[← ag3]
 have key:(Instr.sliceAt T (.string s) (lo.map act.eval) (hi.map act.eval) none).run X.Z.P w'=.ok (.string (s.extract i j)) w':=by
  rcases h1 with ⟨h1,rfl⟩|h1<;>rcases h2 with ⟨h2,rfl⟩|h2<;>rw[h1,h2]<;>simp[Instr.sliceAt,Instr.slice,Instr.sliceBounds,Instr.sliceBound,asIntOf,run_underlying hu,yn,hjn]
 simp only[execOp,ho,gk,Option.map_none]
 simp[key]
end
end Go.Ab
