/- Walks by computing: what each function of the program that the laws reach gives for what it gets, as plain Lean, and that it is so; without a condition but those that stand in each theorem. -/
import Derived.Shelf.Abstract
import Derived.MapKept
import Derived.MapFrom
import Derived.Carry
import Derived.Scope
import Derived.Test.YtafnhieaeejlcaaDoorW1
set_option linter.all false
namespace Go.Ab
open Go Go.RowKit
def wG(X:Ctx)(S S' :St)(kr kp:List Nat)(rs:List (Nat×D))(gs:List (Nat×Nat))(os:List (Nat×Own)):Prop:=∃S'',Wk X S' S''∧As S S'' kr kp rs gs os
section
variable {X:Ctx} {Q:Exit→St→Prop} {S S' S'' :St} {kr kp:List Nat} {rs:List (Nat×D)} {gs:List (Nat×Nat)} {os:List (Nat×Own)}
theorem bJ(h:As S S' kr kp rs gs os):wG X S S' kr kp rs gs os:=⟨S',Wk.refl _ _,h⟩
theorem JY(hw:Wk X S' S'')(h:wG X S S'' kr kp rs gs os):wG X S S' kr kp rs gs os:=
 let⟨T,h1,h2⟩:=h
 ⟨T,hw.trans h1,h2⟩
theorem dJ{c:Code}{α:Type}(kr kp:List Nat)(rs:α→List (Nat×D))(gs:α→List (Nat×Nat))(os:α→List (Nat×Own))(inv:α→Prop)(μ:α→Nat)(x0:α)(h0:inv x0)(hs:fJ S.ρ (rs x0)∧fJ S.γ (gs x0)∧fJ S.σ (os x0))
 (round:∀x h,inv x→W X c (fh (fun S' =>∃x',inv x'∧μ x' <μ x∧wG X S S' kr kp (rs x') (gs x') (os x')) Q) (Qg S kr kp (rs x) (gs x) (os x) h)):W X (.loop c) Q S:=by
 refine DE (α:=α×(Nat→Nat)) (fun x=>Qg S kr kp (rs x.1) (gs x.1) (os x.1) x.2) (fun x=>inv x.1) (fun x=>μ x.1) (x0,S.γ) h0
  (zN ⟨cG hs.1 (ra S kr),cG hs.2.1 (oO S kp),cG hs.2.2 (oZ S kp)⟩) (fun x hi=> ?_)
 refine fL (round x.1 x.2 hi) (fun e S' hq=> ?_)
 cases e with
 |normal=>
  obtain⟨x',h1,h2,S'',h3,h4⟩:=hq
  exact⟨(x',S''.γ),h1,h2,h3.trans (zN (np h4))⟩
 |_=>exact hq
end
def rh(P:Program)(f:Field):D→Bool
 | .int _ _=>f.name != "_" &&(match P.underlying f.type with|some (.int _)=>true|_=>false)
 | .bool _=>f.name != "_" &&(match P.underlying f.type with|some .bool=>true|_=>false)
 |_=>false
def iu(P:Program):List Field→List D→Nat→Bool
 |[],[],_=>true
 |f::fs,d::ds,n=>rh P f d&&Nat.beq f.offset n&&iu P fs ds (n+1)
 |_,_,_=>false
def nR(P:Program)(T:TypeId)(l:List D):Bool:=match P.underlying T with
 |some (.struct fs)=> !P.stoodInHeld T&&iu P fs.toList l 0&& !P.eqGuardType P.depth T
 |_=>false
def j8:List D→List D→Option Bool
 |[],[]=>some true
 | .int k a::l, .int k' b::m=>match k==k',j8 l m with|true,some r=>some (decide (a=b)&&r)|_,_=>none
 | .bool a::l, .bool b::m=>match j8 l m with|some r=>some (a==b&&r)|none=>none
 |_,_=>none
section
variable {P:Program} {κ:Nat→Nat→Option Value} {γ:Nat→Nat} {sv:Nat→Value}
theorem Ec(w:World)(d:Nat):∀(fs:List Field) (l m:List D) (xs ys:List Value) (pre pre' :List Value) (b:Bool),RepL κ γ sv l xs→RepL κ γ sv m ys→pre.length=pre'.length→
 iu P fs l pre.length=true→j8 l m=some b→(Op.eqFields (d+1) (pre++xs).toArray (pre' ++ys).toArray fs).run P w= .ok b w:=by
 intro fs
 induction fs with
 |nil=>
  intro l m xs ys pre pre' b h1 h2 hp hf he
  cases l with
  |cons x l=>simp[iu]at hf
  |nil=>
   cases m with
   |nil=>simp[j8]at he;subst he;simp[Op.eqFields]
   |cons x m=>simp[j8]at he
 |cons f fs ih=>
  intro l m xs ys pre pre' b h1 h2 hp hf he
  cases l with
  |nil=>simp[iu]at hf
  |cons x l=>
   simp only[iu,Bool.and_eq_true]at hf
   obtain⟨⟨hf1,hf2⟩,hf3⟩:=hf
   have hoff:=Nat.eq_of_beq_eq_true hf2
   cases m with
   |nil=>cases x<;>simp[j8]at he
   |cons y m=>
    cases h1 with
    |cons _ vx _ vxs r1 rs1=>
     cases h2 with
     |cons _ vy _ vys r2 rs2=>
      have key:∀(r b' :Bool),f.name≠ "_" →P.plainKey f.type=true→j8 l m=some b'→(Op.equalIn (d+1) f.type vx vy).run P w= .ok r w→b=(r&&b')→(Op.eqFields (d+1) (pre++vx::vxs).toArray (pre' ++vy::vys).toArray (f::fs)).run P w= .ok b w:=by
       intro r b' hn hk hb' hr hb
       have p1:(part f.type (pre++vx::vxs).toArray f.offset).run P w= .ok vx w:=run_part_plain w hk (by rw[hoff];simp)
       have p2:(part f.type (pre' ++vy::vys).toArray f.offset).run P w= .ok vy w:=run_part_plain w hk (by rw[hoff,hp];simp)
       have hrest:=ih l m vxs vys (pre++[vx]) (pre' ++[vy]) b' rs1 rs2 (by simp[hp]) (by rw[List.length_append];exact hf3) hb'
       simp only[List.append_assoc,List.singleton_append]at hrest
       simp only[Op.eqFields,hn,ne_eq,not_false_eq_true,if_true,Sem.run_bind,p1,p2,hr,Result.andThen_ok]
       cases r with
       |false=>simp[hb]
       |true=>simpa[hb]using hrest
      cases x<;>cases y<;>simp only[j8]at he<;>try (cases he;done)
      ·rename_i k1 a k2 c
       cases r1;cases r2
       simp only[rh,Bool.and_eq_true]at hf1
       obtain⟨hn,hu⟩:=hf1
       cases hkk:k1==k2 with
       |false=>rw[hkk]at he;simp at he
       |true=>
        have:k1=k2:=by simpa using hkk
        subst this
        rw[hkk]at he
        cases he2:j8 l m with
        |none=>rw[he2]at he;cases he
        |some r=>
         rw[he2]at he
         simp only[Option.some.injEq]at he
         cases hT:P.underlying f.type with
         |none=>simp[hT]at hu
         |some dd=>
          cases dd<;>simp[hT]at hu
          refine key (a==c) r (by simpa using hn) (by simp[Program.plainKey,hT]) he2 (by simp[Op.equalIn,run_underlying hT]) (by rw[←he];first|rfl|simp)
      ·rename_i a c
       cases r1;cases r2
       simp only[rh,Bool.and_eq_true]at hf1
       obtain⟨hn,hu⟩:=hf1
       cases he2:j8 l m with
       |none=>rw[he2]at he;cases he
       |some r=>
        rw[he2]at he
        simp only[Option.some.injEq]at he
        cases hT:P.underlying f.type with
        |none=>simp[hT]at hu
        |some dd=>
         cases dd<;>simp[hT]at hu
         refine key (a==c) r (by simpa using hn) (by simp[Program.plainKey,hT]) he2 (by simp[Op.equalIn,run_underlying hT]) (by rw[←he])
theorem uz(w:World)(d:Nat){T:TypeId}{l m:List D}{xs ys:List Value}{b:Bool}(hf:nR P T l=true)(h1:RepL κ γ sv l xs)(h2:RepL κ γ sv m ys)(he:j8 l m=some b):
 (Op.equalIn (d+2) T (.agg xs.toArray) (.agg ys.toArray)).run P w= .ok b w:=by
 unfold nR at hf
 cases hu:P.underlying T with
 |none=>simp[hu]at hf
 |some dd=>
  cases dd<;>simp only[hu]at hf<;>try (cases hf;done)
  rename_i fs
  simp only[Bool.and_eq_true,Bool.not_eq_true']at hf
  have hfs:P.fieldsOf T=fs:=by simp[Program.fieldsOf,hu]
  rw[run_equalIn_struct w (d+1) T _ _ (by rw[hfs];exact hu) hf.1.1,hfs]
  exact Ec w d fs.toList l m xs ys [] [] b h1 h2 rfl hf.1.2 he
theorem Dt{T:TypeId}{l:List D}(hf:nR P T l=true):P.eqGuardType P.depth T=false:=by
 unfold nR at hf
 cases hu:P.underlying T with
 |none=>simp[hu]at hf
 |some dd=>
  cases dd<;>simp only[hu]at hf<;>try (cases hf;done)
  simp only[Bool.and_eq_true,Bool.not_eq_true']at hf
  exact hf.2
end
def g7(P:Program):List Field→List D→Nat→Bool
 |[],[],_=>true
 |f::fs,l,n=>f.name != "_" &&nR P f.type (l.take (P.cellsOf f.type))&&Nat.beq f.offset n&&Nat.beq (l.take (P.cellsOf f.type)).length (P.cellsOf f.type)&&g7 P fs (l.drop (P.cellsOf f.type)) (n+P.cellsOf f.type)
 |_,_,_=>false
def AO(P:Program)(T:TypeId)(l:List D):Bool:=match P.underlying T with
 |some (.struct fs)=> !P.stoodInHeld T&&g7 P fs.toList l 0&& !P.eqGuardType P.depth T
 |_=>false
def qn(P:Program)(T:TypeId)(l:List D):Bool:=nR P T l||AO P T l
theorem tp:∀(n:Nat) (l m:List D) (b:Bool),j8 l m=some b→∃b1 b2,j8 (l.take n) (m.take n)=some b1∧j8 (l.drop n) (m.drop n)=some b2∧b=(b1&&b2)
 |0,l,m,b,h=>⟨true,b,by simp[j8],by simpa using h,by simp⟩
 |n+1,[],[],b,h=>⟨true,true,by simp[j8],by simp[j8],by simp[j8]at h;subst h;rfl⟩
 |n+1,[],_::_,b,h=>by simp[j8]at h
 |n+1,x::l,[],b,h=>by cases x<;>simp[j8]at h
 |n+1,x::l,y::m,b,h=>by
  cases x<;>cases y<;>simp only[j8]at h<;>try (cases h;done)
  ·rename_i k1 a k2 c
   cases hkk:k1==k2 with
   |false=>rw[hkk]at h;simp at h
   |true=>
    rw[hkk]at h
    cases h2:j8 l m with
    |none=>rw[h2]at h;cases h
    |some r=>
     rw[h2]at h
     simp only[Option.some.injEq]at h
     obtain⟨b1,b2,q1,q2,q3⟩:=tp n l m r h2
     refine⟨decide (a=c)&&b1,b2, ?_,by simpa using q2,by rw[←h,q3,Bool.and_assoc]⟩
     simp only[List.take_succ_cons,j8,hkk,q1]
  ·rename_i a c
   cases h2:j8 l m with
   |none=>rw[h2]at h;cases h
   |some r=>
    rw[h2]at h
    simp only[Option.some.injEq]at h
    obtain⟨b1,b2,q1,q2,q3⟩:=tp n l m r h2
    refine⟨(a==c)&&b1,b2, ?_,by simpa using q2,by rw[←h,q3,Bool.and_assoc]⟩
    simp only[List.take_succ_cons,j8,q1]
section
variable {P:Program} {κ:Nat→Nat→Option Value} {γ:Nat→Nat} {sv:Nat→Value}
theorem RepL.Is:∀{l:List D} {vs:List Value},RepL κ γ sv l vs→∀n,RepL κ γ sv (l.drop n) (vs.drop n)
 |_,_,h,0=>by simpa using h
 |_,_, .nil,n+1=>by simpa using RepL.nil
 |_,_, .cons d v l vs h1 h2,n+1=>by simpa using RepL.Is h2 n
theorem nr(w:World){T:TypeId}{l:List D}(hf:nR P T l=true){pre xs:List Value}{off:Nat}(ho:off=pre.length):
 (part T (pre++xs).toArray off).run P w= .ok (.agg (xs.take (P.cellsOf T)).toArray) w:=by
 unfold nR at hf
 cases hu:P.underlying T with
 |none=>simp[hu]at hf
 |some dd=>
  cases dd<;>simp only[hu]at hf<;>try (cases hf;done)
  obtain⟨i,hi⟩:=info_of_underlying hu
  have hc:P.cellsOf T=i.size:=by simp[Program.cellsOf,hi]
  have he:((pre++xs).toArray.extract off (off+i.size))=(xs.take i.size).toArray:=by
   apply Array.ext'
   rw[Array.toList_extract]
   simp[List.extract,ho]
  rw[hc,←he]
  simp[part,isAgg,run_underlying hu,sizeOf,typeInfo,hi]
theorem C5(w:World)(d:Nat):∀(fs:List Field) (l m:List D) (xs ys:List Value) (pre pre' :List Value) (b:Bool),RepL κ γ sv l xs→RepL κ γ sv m ys→pre.length=pre'.length→
 g7 P fs l pre.length=true→j8 l m=some b→(Op.eqFields (d+2) (pre++xs).toArray (pre' ++ys).toArray fs).run P w= .ok b w:=by
 intro fs
 induction fs with
 |nil=>
  intro l m xs ys pre pre' b h1 h2 hp hf he
  cases l with
  |cons x l=>simp[g7]at hf
  |nil=>
   cases m with
   |nil=>simp[j8]at he;subst he;simp[Op.eqFields]
   |cons x m=>simp[j8]at he
 |cons f fs ih=>
  intro l m xs ys pre pre' b h1 h2 hp hf he
  simp only[g7,Bool.and_eq_true]at hf
  obtain⟨⟨⟨⟨hn,hf1⟩,hf2⟩,hf4⟩,hf3⟩:=hf
  have hoff:=Nat.eq_of_beq_eq_true hf2
  have hz:=Nat.eq_of_beq_eq_true hf4
  have hn:f.name≠ "_" :=by simpa using hn
  obtain⟨b1,b2,q1,q2,q3⟩:=tp (P.cellsOf f.type) l m b he
  have hl1:=(h1.take (P.cellsOf f.type)).length
  have hll:(m.take (P.cellsOf f.type)).length=P.cellsOf f.type:=by
   have:∀(l m:List D) (b:Bool),j8 l m=some b→l.length=m.length:=by
    intro l
    induction l with
    |nil=>intro m b h;cases m<;>simp[j8]at h⊢
    |cons x l ih2=>
     intro m b h
     cases m with
     |nil=>cases x<;>simp[j8]at h
     |cons y m=>
      have:∃b',j8 l m=some b' :=by
       cases x<;>cases y<;>simp only[j8]at h<;>try (cases h;done)
       ·rename_i k1 a k2 c
        cases hkk:k1==k2<;>rw[hkk]at h
        ·simp at h
        ·cases h2:j8 l m with
         |none=>rw[h2]at h;cases h
         |some r=>exact⟨r,rfl⟩
       ·cases h2:j8 l m with
        |none=>rw[h2]at h;cases h
        |some r=>exact⟨r,rfl⟩
      obtain⟨b',hb'⟩:=this
      simp[ih2 m b' hb']
   rw[←this _ _ _ q1,hz]
  have hl2:=(h2.take (P.cellsOf f.type)).length
  have p1:=nr (P:=P) w hf1 (pre:=pre) (xs:=xs) (off:=f.offset) hoff
  have p2:=nr (P:=P) w hf1 (pre:=pre') (xs:=ys) (off:=f.offset) (by rw[hoff,hp])
  have hr:=uz (P:=P) w d hf1 (h1.take _) (h2.take _) q1
  have hrest:=ih (l.drop (P.cellsOf f.type)) (m.drop (P.cellsOf f.type)) (xs.drop (P.cellsOf f.type)) (ys.drop (P.cellsOf f.type)) (pre++xs.take (P.cellsOf f.type)) (pre' ++ys.take (P.cellsOf f.type)) b2 (h1.Is _) (h2.Is _)
   (by rw[List.length_append,List.length_append,hl1,hl2,hz,hll,hp]) (by rw[List.length_append,hl1,hz];exact hf3) q2
  simp only[List.append_assoc,List.take_append_drop]at hrest
  simp only[Op.eqFields,hn,ne_eq,not_false_eq_true,if_true,Sem.run_bind,p1,p2,hr,Result.andThen_ok]
  cases b1 with
  |false=>simp[q3]
  |true=>simpa[q3]using hrest
theorem sF(w:World)(d:Nat){T:TypeId}{l m:List D}{xs ys:List Value}{b:Bool}(hf:qn P T l=true)(h1:RepL κ γ sv l xs)(h2:RepL κ γ sv m ys)(he:j8 l m=some b):
 (Op.equalIn (d+3) T (.agg xs.toArray) (.agg ys.toArray)).run P w= .ok b w:=by
 unfold qn at hf
 rw[Bool.or_eq_true]at hf
 rcases hf with hf|hf
 ·exact uz w (d+1) hf h1 h2 he
 unfold AO at hf
 cases hu:P.underlying T with
 |none=>simp[hu]at hf
 |some dd=>
  cases dd<;>simp only[hu]at hf<;>try (cases hf;done)
  rename_i fs
  simp only[Bool.and_eq_true,Bool.not_eq_true']at hf
  have hfs:P.fieldsOf T=fs:=by simp[Program.fieldsOf,hu]
  rw[run_equalIn_struct w (d+2) T _ _ (by rw[hfs];exact hu) hf.1.1,hfs]
  exact C5 w d fs.toList l m xs ys [] [] b h1 h2 rfl hf.1.2 he
theorem um{T:TypeId}{l:List D}(hf:qn P T l=true):P.eqGuardType P.depth T=false:=by
 unfold qn at hf
 rw[Bool.or_eq_true]at hf
 rcases hf with hf|hf
 ·exact Dt hf
 unfold AO at hf
 cases hu:P.underlying T with
 |none=>simp[hu]at hf
 |some dd=>
  cases dd<;>simp only[hu]at hf<;>try (cases hf;done)
  simp only[Bool.and_eq_true,Bool.not_eq_true']at hf
  exact hf.2
end
section
variable {X:Ctx} {S:St} {o:Oper} {T T2:TypeId} {x y:Operand}
theorem qB{κ:Nat→Nat→Option Value}{sv:Nat→Value}{a:Act}{w:World}(hs:dh X κ sv S a w){l:List D}(h:S.ev X x= .agg l):∃vs,a.eval x= .agg vs.toArray∧RepL κ S.γ sv l vs:=by
 have h1:=hs.ev x
 rw[h]at h1
 generalize a.eval x=v at h1
 cases h1 with
 |agg _ vs hv=>exact⟨vs,rfl,hv⟩
theorem J8{l m:List D}{b:Bool}(ho:o.op= .binOp .eql T x y T2)(hx:S.ev X x= .agg l)(hy:S.ev X y= .agg m)(he:j8 l m=some b)(hf:qn X.Z.P T l=true):eu X o S (.bool b):=fun κ sv a w hs=>by
 obtain⟨xs,e1,r1⟩:=qB hs hx
 obtain⟨ys,e2,r2⟩:=qB hs hy
 refine⟨.bool b, .bool _,fun w' _=> ?_⟩
 have:=sF (P:=X.Z.P) w' 9997 hf r1 r2 he
 simp[execOp,ho,e1,e2,eqGuard,binOp,Op.equal,Op.maxDepth,this,um hf]
theorem vJ{l m:List D}{b:Bool}(ho:o.op= .binOp .neq T x y T2)(hx:S.ev X x= .agg l)(hy:S.ev X y= .agg m)(he:j8 l m=some b)(hf:qn X.Z.P T l=true):eu X o S (.bool (!b)):=fun κ sv a w hs=>by
 obtain⟨xs,e1,r1⟩:=qB hs hx
 obtain⟨ys,e2,r2⟩:=qB hs hy
 refine⟨.bool (!b), .bool _,fun w' _=> ?_⟩
 have:=sF (P:=X.Z.P) w' 9997 hf r1 r2 he
 simp[execOp,ho,e1,e2,eqGuard,binOp,Op.equal,Op.maxDepth,this,um hf]
end
section
variable {X:Ctx} {Q:Exit→St→Prop} {S S' :St} {ops:Array Oper} {o:Oper} {rest:List Oper} {T:TypeId} {r q:TRow}
theorem A4{ps:Array (Nat×Operand)}{t z:Nat}{E:TypeId}(f:Nat→List D)(ho:o.op= .buildSlice T 0 ps)(hd:o.dst=some t)(hps:ps= #[])
 (hr:nth X.Z.dS T=some r)(hk:Nat.beq r.k 3=true)(hE:r.el=E)(hq:nth X.Z.dS E=some q)(hq9:Nat.beq q.k 9=false)(hz:q.sz=z):
 kX X o S (S.owned t t (.arr E z 0 f)):=fun κ sv a w hs=>by
 have hokr:=X.Z.tabOk _ _ hr (by intro e;rw[e]at hk;cases hk)
 have hokq:=X.Z.tabOk _ _ hq (by intro e;rw[e]at hq9;cases hq9)
 obtain⟨iq,dq,hiq,hdq,hsq,hbq,⟨zv,hzv,hzf⟩,_⟩:=cW hokq
 have hu:=cZ hokr hk
 rw[hE]at hu
 have hrun:(execOp a.eval o).run X.Z.P w= .ok (.value (.slice (some ⟨w.heap.size,0,none⟩) 0 0)) (w.alloc (.cells #[] E)):=by
  have hz0:(Array.range 0).map (fun _=>(default:Value))= #[]:=by
   apply Array.eq_empty_of_size_eq_zero;simp
  simp[execOp,ho,hps,Instr.buildSlice,run_underlying hu,sizeOf,typeInfo,hiq,newRow,Instr.fill,hz0]
 have hb' :Below w.heap.size w (w.alloc (.cells #[] E)):=(Below.refl _ _).alloc (Nat.le_refl _) _
 rw[hd]
 refine⟨_,_,κ,_, .inl hrun,dY hs t t (pv:= .slice (some ⟨w.heap.size,0,none⟩) 0 0) rfl (bN hb' _) (fun b hb=>by simp only[cw,Option.some.injEq]at hb;exact .inl (by omega)) ?_⟩
 refine⟨[],by rw[aj];exact⟨by simp, .inr ⟨w.heap.size,0,0, #[],rfl,(hs.wld.mO _),heap_alloc_new w _,Nat.le_refl _,Nat.zero_le _,by simp,by simp⟩⟩,fun i h=>by omega,fun i h=>by omega,fun i h=>by omega⟩
theorem IP{ps:Array (Nat×Operand)}{n z t:Nat}{xs:List Operand}{E:TypeId}{cs:List (List D)}(ho:o.op= .buildSlice T n ps)(hd:o.dst=some t)(hsq:AU 0 ps.toList=some xs)(hn:Nat.beq xs.length n=true)
 (hr:nth X.Z.dS T=some r)(hk:Nat.beq r.k 3=true)(hE:r.el=E)(hq:nth X.Z.dS E=some q)(hq9:Nat.beq q.k 9=false)(hz:q.sz=z)(hz0:Nat.beq z 0=false)(hn0:Nat.beq n 0=false)(hsm:Nat.ble (n*z) 16777216=true)(hc:uf X S xs=cs)(hok:KM z cs=true):
 kX X o S (S.owned t t (.arr E z n (uO cs))):=fun κ sv a w hs=>by
 subst hc
 obtain⟨hrun,hfl⟩:=EZ hs ho hsq hn hr hk hE hq hq9 hz hz0 hn0 hsm hok
 obtain⟨hrep,hcells⟩:=va hs hok
 have hlen:xs.length=n:=Nat.eq_of_beq_eq_true hn
 have hz1:0<z:=by
  cases z with
  |zero=>cases hz0
  |succ z=>omega
 have hle:n*z≤16777216:=Nat.le_of_ble_eq_true hsm
 have hnz:n≤n*z:=Nat.le_mul_of_pos_right n hz1
 have hb' :Below w.heap.size w (w.alloc (.cells ((xs.map a.eval).map (·.cells.toList)).flatten.toArray E)):=(Below.refl _ _).alloc (Nat.le_refl _) _
 rw[hd]
 refine⟨_,_,κ,_, .inl hrun,dY hs t t (pv:= .slice (some ⟨w.heap.size,0,none⟩) n n) rfl (bN hb' _) (fun b hb=>by simp only[cw,Option.some.injEq]at hb;exact .inl (by omega)) ?_⟩
 have hnth:∀i,i<n→∃c,nth (uf X S xs) i=some c∧uO (uf X S xs) i=c:=by
  intro i hi
  rw[dX]
  have:i<(uf X S xs).length:=by rw[qN,hlen];exact hi
  exact⟨(uf X S xs)[i],by simp[this],by simp[uO,dX,this]⟩
 refine⟨((xs.map a.eval).map (·.cells.toList)).flatten,by rw[aj];exact⟨hfl, .inr ⟨w.heap.size,0,n,((xs.map a.eval).map (·.cells.toList)).flatten.toArray,rfl,(hs.wld.mO _),heap_alloc_new w _,Nat.le_refl _,by unfold maxLen;omega,by rw[List.size_toArray,hfl];omega,by rw[List.drop_zero,List.take_of_length_le (by simp only[List.toList_toArray];omega)]⟩⟩,fun i hi=> ?_,fun i hi=> ?_,fun i hi=> ?_⟩
 ·obtain⟨c,h1,h2⟩:=hnth i hi;rw[h2];exact(hrep i c h1).1
 ·obtain⟨c,h1,h2⟩:=hnth i hi;rw[h2];exact(hrep i c h1).2.1
 ·obtain⟨c,h1,h2⟩:=hnth i hi
  obtain⟨_,_,v,h3,h4⟩:=hrep i c h1
  rw[h2]
  have hch:((((xs.map a.eval).map (·.cells.toList)).flatten).drop (i*z)).take z=v.cells.toList:=by
   apply List.ext_getElem?
   intro j
   rw[List.getElem?_take]
   split
   ·rename_i hj
    rw[List.getElem?_drop,nk _ (z:=z) (fun c hc=>by
     obtain⟨v,hv,rfl⟩:=List.mem_map.1 hc
     simpa using(hcells v hv).1) i j hj]
    rw[List.getElem?_map,h3];rfl
   ·rename_i hj
    have hv:v∈xs.map a.eval:=List.mem_of_getElem? h3
    have:=(hcells v hv).1
    rw[List.getElem?_eq_none (by simp at this⊢;omega)]
  rw[hch]
  exact h4.mono (dP κ S.γ sv t _)
theorem oF(t i j:Nat){s g E z n E2 z2 n2:Nat}{f f2 f2' :Nat→List D}{l0 l' :List D}(hσt:S.σ t= .arr E2 z2 n2 f2)(hne:Nat.beq t s=false)(hi:i<n2)(h0:f2 i=l0)(hl:nth l0 j=some (.os s g))(hg:S.γ s=g)(hσ:S.σ s= .arr E z n f)(hl' :fO l0 j [.sl z n f]=some l')(hf:∀k,k<n2→f2' k=if k=i then l' else f2 k)(hxa:X.xa s=false:=by rfl):
 Wk X S ⟨S.ρ,S.γ,bM (bM S.σ s .none) t (.arr E2 z2 n2 f2')⟩:=fun κ sv a w hs=>by
 have hle:=lX hs.wld s
 subst h0
 have hne:t≠s:=fun e=>by rw[e,Nat.beq_refl]at hne;cases hne
 have hW:=hs.wld.freeze s (u7 hs.wld hσ hxa) S.ρ
 obtain⟨hl'e,hlen⟩:=iH hl'
 have hown:=hW.own t
 simp only[bg _ _ _ _ hne,hσt]at hown
 obtain⟨xs,e1,e2,e3,e4⟩:=hown
 have hsim:cV X (fun b o=>if cw (S.σ s) (sv s)=some b then w.cell? ⟨b,o,none⟩else κ b o) sv ⟨S.ρ,S.γ,bM (bM S.σ s .none) t (.arr E2 z2 n2 f2')⟩ w:=by
  refine hW.rewrite t (.arr E2 z2 n2 f2') (bN (Below.refl _ _) _) (by
   simp only[bg _ _ _ _ hne,hσt]
   cases sv t with
   |pointer a=>cases a<;>rfl
   |slice a=>cases a<;>rfl
   |map a=>cases a<;>rfl
   |_=>rfl) ⟨xs,e1,fun k hk=> ?_,fun k hk=> ?_,fun k hk=> ?_⟩ _
  ·rw[hf k hk]
   split
   ·rename_i h;subst h;rw[hl'e];have:=e2 k hk;simp at hlen⊢;omega
   ·exact e2 k hk
  ·rw[hf k hk]
   split
   ·rename_i h;subst h;rw[hl'e];exact dA (dA (iB (e3 k hk) _) rfl) (iA (e3 k hk) _)
   ·exact e3 k hk
  ·rw[hf k hk]
   split
   ·rename_i h
    subst h
    rw[hl'e]
    have e3' :=e4 k hk
    rw[dX]at hl
    obtain⟨vj,hvj,hrj⟩:=e3'.get hl
    generalize (xs.drop (k*z2)).take z2=cs at e3' hvj
    have hjl:j<cs.length:=(List.getElem?_eq_some_iff.1 hvj).1
    have hcs:cs=cs.take j++[vj]++cs.drop (j+1):=by
     have h3:cs[j]=vj:=by simpa[List.getElem?_eq_getElem hjl]using hvj
     rw[←h3,List.append_assoc,List.singleton_append,List.getElem_cons_drop,List.take_append_drop]
    rw[hcs]
    refine((e3'.take j).append (.cons _ _ _ _ ?_ .nil)).append (e3'.drop _)
    have hv:vj=sv s:=by
     cases hrj with
     |os _ _ _ _ hh _=>exact hh hg.symm
    rw[hv]
    exact kJ hs.wld hσ hle (fun b o v hb hc=>by simp[hb,hc])
   ·exact e4 k hk
 exact⟨_,sv,⟨hs.size,hs.defers,fun i hi=>(hs.slot i hi).mono hle,hsim⟩⟩
theorem K2(t j s:Nat)(E z:Nat)(f:Nat→List D){l l' :List D}(hσt:S.σ t= .box l)(hne:Nat.beq t s=false)(hs0:S.σ s= .none)(hl:nth l j=some .nil)(hl' :fO l j [.os s (S.γ s+1)]=some l'):
 Wk X S ⟨S.ρ,bM S.γ s (S.γ s+1),bM (bM S.σ s (.arr E z 0 f)) t (.box l')⟩:=fun κ sv a w hs=>by
 have hne:t≠s:=fun e=>by rw[e,Nat.beq_refl]at hne;cases hne
 obtain⟨rfl,hlen⟩:=iH hl'
 have hle:=dP κ S.γ sv s (.slice none 0 0)
 have hW:=hs.wld.renew s (.arr E z 0 f) (.slice none 0 0) (bN (Below.refl _ _) _) (fun b hb=>by cases hb)
  ⟨[],by rw[aj];exact gS _ _ _ _,fun _ h=>by omega,fun _ h=>by omega,fun _ h=>by omega⟩ S.ρ
 refine⟨κ,bM sv s (.slice none 0 0),⟨hs.size,hs.defers,fun i hi=>(hs.slot i hi).mono hle, ?_⟩⟩
 have hown:=hW.own t
 simp only[bg _ _ _ _ hne,hσt]at hown
 obtain⟨b,Tb,cs,e1,e2,e3,e4⟩:=hown
 refine hW.rewrite t (.box _) (bN (Below.refl _ _) _) (by simp only[bg _ _ _ _ hne,hσt]at e1⊢;rw[e1];rfl) ⟨b,Tb,cs,e1,e2, ?_, ?_⟩ _
 ·rw[dX]at hl
  obtain⟨vj,hvj,hrj⟩:=e3.get hl
  have hjl:j<cs.length:=(List.getElem?_eq_some_iff.1 hvj).1
  have hcs:cs=cs.take j++[vj]++cs.drop (j+1):=by
   have h3:cs[j]=vj:=by simpa[List.getElem?_eq_getElem hjl]using hvj
   rw[←h3,List.append_assoc,List.singleton_append,List.getElem_cons_drop,List.take_append_drop]
  rw[hcs]
  refine((e3.take j).append (.cons _ _ _ _ ?_ .nil)).append (e3.drop _)
  cases hrj
  exact .os _ _ _ (by rw[aj];exact Nat.le_refl _) (fun _=>by rw[aj]) rfl
 ·exact dA (dA (iB e4 _) rfl) (iA e4 _)
theorem Jc{ps:Array (Nat×Operand)}{t z:Nat}{E:TypeId}(f:Nat→List D)(ho:o.op= .buildSlice T 0 ps)(hd:o.dst=some t)(hps:ps= #[])
 (hr:nth X.Z.dS T=some r)(hk:Nat.beq r.k 3=true)(hE:r.el=E)(hq:nth X.Z.dS E=some q)(hq9:Nat.beq q.k 9=false)(hz:q.sz=z):
 FN X o S [t] (wB t) ⟨.os t (S.γ t+1),S.γ t+1, .arr E z 0 f⟩:=⟨fun T hT hs=>by
 have h:=A4 (S:=T) f ho hd hps hr hk hE hq hq9 hz
 have:T.owned t t (.arr E z 0 f)=T.app (wB t) ⟨.os t (S.γ t+1),S.γ t+1, .arr E z 0 f⟩:=by
  unfold St.owned St.app;rw[hs t (by simp)];rfl
 rw[←this];exact h⟩
theorem tG(f:Nat→List D)(i:Nat)(l:List D):oP f i l i=l:=by simp[oP]
theorem A1(f:Nat→List D){i k:Nat}(l:List D)(h:k≠i):oP f i l k=f k:=by simp[oP,h]
end
section
variable {X:Ctx} {S:St} {o:Oper} {x:Operand}
theorem cx{l:List D}(ho:o.op= .move x)(hd:S.ev X x= .tup l):eu X o S (.tup l):=lC ho hd
theorem Mc{f:FuncId}{l:List D}(ho:o.op= .move x)(hd:S.ev X x= .fn f l):eu X o S (.fn f l):=lC ho hd
theorem Qt{f:FuncId}{l:List D}(ho:o.op= .assign x)(hd:S.ev X x= .fn f l):eu X o S (.fn f l):=gE ho hd
end
section
variable {X:Ctx} {S:St} {rs:List ResultVar}
theorem Jr{t z n n' :Nat}{f f' :Nat→List D}(hr:rs=[.tmp t])(h:S.ev X (.tmp t)= .sl z n f)(e:n=n')(e2:f=f'):gR X rs (.sl z n' f') .ret S:=⟨[.sl z n f],by rw[hr];exact⟨h,trivial⟩,by rw[e,e2];rfl⟩
end
def jO(X:Ctx)(rs:List ResultVar)(R:D):Exit→St→Prop:=fun e S=>∃S',Wk X S S'∧gR X rs R e S'
section
variable {X:Ctx} {S S' :St} {rs:List ResultVar} {R:D} {e:Exit}
theorem aM(h:gR X rs R e S):jO X rs R e S:=⟨S,Wk.refl _ _,h⟩
theorem oc(hw:Wk X S S')(h:jO X rs R e S'):jO X rs R e S:=
 let⟨T,h1,h2⟩:=h
 ⟨T,hw.trans h1,h2⟩
theorem P6{c:Code}(h:W X c (jO X rs R) S):W X c (gR X rs R) S:=fun κ sv a w hs=>by
 refine wpIn_mono (h κ sv a w hs) ?_
 rintro e a' w' ⟨κ',sv',S',hs',S'',hw,hq⟩
 obtain⟨κ2,sv2,hs2⟩:=hw κ' sv' a' w' hs'
 exact⟨κ2,sv2,S'',hs2,hq⟩
end
theorem aD{Z:Seat}{f:FuncId}{fn:Func}{c:Code}{A:List D}{R:D}(hf:Z.P.funcs[f]? =some fn)(hb:fn.body=some c)(hname:(fn.name== "runtime.NumGoroutine")=false)(hn:Nat.ble A.length fn.ntmps=true)(hA:af A)(hR:Pure R)
 (h:∀w κ,W (Ctx.plain Z fn.ntmps w κ none) c (jO (Ctx.plain Z fn.ntmps w κ none) fn.results.toList R) (St.init A)):au Z f A R:=
 bS hf hb hname hn hA hR fun w κ=>P6 (h w κ)
section
variable {X:Ctx} {S:St} {o:Oper} {T:TypeId} {r q:TRow}
theorem vk{h:Nat→Nat}{x:Operand}(hx:x∈o.op.operands.toList):(lW S (mV X S o) h).ev X x=S.ev X x:=gB fun t e=>by
 subst e
 simp only[lW]
 have h1:cY t (mV X S o).rr=true:=cu.2 (jb hx)
 rw[h1];rfl
theorem oK{h:Nat→Nat}:∀{l:List (Nat×Operand)},(∀p∈l,p.2∈o.op.operands.toList)→fK X (lW S (mV X S o) h) l=fK X S l∧gi X (lW S (mV X S o) h) l=gi X S l
 |[],_=>⟨rfl,rfl⟩
 |(i,x)::l,hl=>by
  obtain⟨h1,h2⟩:=oK (h:=h) (l:=l) fun p hp=>hl p (List.mem_cons_of_mem _ hp)
  have h3:=vk (S:=S) (X:=X) (h:=h) (hl (i,x) (List.mem_cons_self ..))
  simp only at h3
  simp only[fK,gi,h1,h2,h3,and_self]
theorem bB{ps:Array (Nat×Operand)}{l:List D}(ho:o.op= .build T ps)(hr:nth X.Z.dS T=some r)(hk:Nat.beq r.k 1=true)(hp:gi X S ps.toList=true)
 (hb:ye (OT r.fl) (r.zs.map Zr.bV) (fK X S ps.toList)=some l):FQ X o S (.agg l):=fun h=>by
 have hm:∀p∈ps.toList,p.2∈o.op.operands.toList:=fun p hp=>by rw[ho];simp only[Op.operands];exact List.mem_map.2 ⟨p,hp,rfl⟩
 obtain⟨h1,h2⟩:=oK (X:=X) (S:=S) (h:=h) hm
 exact bK ho hr hk (h2.trans hp) (by rw[h1];exact hb)
theorem aV{ps:Array (Nat×Operand)}{l:List D}{E:TypeId}(ho:o.op= .build T ps)(hr:nth X.Z.dS T=some r)(hk:Nat.beq r.k 2=true)(hE:r.el=E)(hq:nth X.Z.dS E=some q)(hq9:Nat.beq q.k 9=false)(hp:gi X S ps.toList=true)
 (hb:ye (fun i=>some (i*q.sz,q.sz)) (r.zs.map Zr.bV) (fK X S ps.toList)=some l):FQ X o S (.agg l):=fun h=>by
 have hm:∀p∈ps.toList,p.2∈o.op.operands.toList:=fun p hp=>by rw[ho];simp only[Op.operands];exact List.mem_map.2 ⟨p,hp,rfl⟩
 obtain⟨h1,h2⟩:=oK (X:=X) (S:=S) (h:=h) hm
 exact eH ho hr hk hE hq hq9 (h2.trans hp) (by rw[h1];exact hb)
theorem b8{cs:Array Operand}{f:FuncId}(ho:o.op= .makeFunc (.func f) #[] cs):FQ X o S (.fn f (cs.toList.map (S.ev X))):=fun h=>by
 have h1:cs.toList.map (S.ev X)=cs.toList.map ((lW S (mV X S o) h).ev X):=List.map_congr_left fun x hx=>(vk (by rw[ho];simp[Op.operands];simpa using hx)).symm
 rw[h1];exact NL ho
end
end Go.Ab
namespace Go.Ab
open Go Go.RowKit Go.Shelf
def lj(T:Nat→Prop)(W W' :World):Nat→Prop:=fun b=>T b∨(W.heap.size≤b∧b<W'.heap.size)
structure Kept (T:Nat→Prop) (κ:Nat→Nat→Option Value) (W W' :World):Prop where
 size:W.heap.size≤W'.heap.size
 mine:∀b,T b→W'.heap[b]? =W.heap[b]?
 cell:∀b o v,κ b o=some v→W'.cell? ⟨b,o,none⟩=some v
def mD(T G:Nat→Prop):Nat→Prop:=fun b=>T b∧¬G b
structure F9 (T G:Nat→Prop) (κ κi:Nat→Nat→Option Value) (W:World) (its:List D) (vs:List Value):Prop where
 mine:∀b,G b→T b
 from' :∀b o v,κi b o=some v→(κ b o=some v∨G b)∧W.cell? ⟨b,o,none⟩=some v
 rep:RepL κi tn m9 its vs
structure Og (Z:Seat) (gf:FuncId) (cap:List D) (n:Nat) (its:Nat→List D):Prop where
 body:fN Z.P gf
 pureI:∀k,k<n→af (its k)
 pureC:af cap
 it:∀(w:World) (κ:Nat→Nat→Option Value) (lb:List Value),Fits κ w→jM Z κ→RepL κ tn m9 cap lb→∀(l:Nat) (J Jx:(Nat→Prop)→Nat→World→Prop),
  (∀T k W W',J T k W→Step T W W'→J (lj T W W') k W')→
  (∀T k W W',Jx T k W→Step T W W'→Jx (lj T W W') k W')→
  (∀T k W vs G κi,J T k W→k<n→(∀b o v,κ b o=some v→W.cell? ⟨b,o,none⟩=some v)→F9 T G κ κi W (its k) vs→YieldAt Fence.wide 0 Z.P l vs.toArray W fun e W' =>
    ((e= .returned (.bool true)∧J (mD T G) (k+1) W')∨(e= .returned (.bool false)∧Jx (mD T G) (k+1) W'))∧Kept (mD T G) κ W W')→
  J (fun _=>False) 0 w→
  CallsIn Fence.wide 0 Z.P gf (Value.func (.yield l) #[] #[]::lb).toArray w fun e W' =>(∃v,e= .returned v)∧((∃T,J T n W')∨(∃T k,k≤n∧Jx T k W'))
def nw(w0:World)(ext:Option Nat)(T:Nat→Prop)(wT:World)(M:Nat→Prop)(w:World):Prop:=
 (∃M',gw w0 ext M' w∧∀b,M b→M' b)∧(∀b,M b→¬T b)∧(∀b,T b→b<wT.heap.size∧w.heap[b]? =wT.heap[b]?)∧wT.heap.size≤w.heap.size
theorem jl(w0:World)(ext:Option Nat)(T:Nat→Prop)(wT:World):∀M w w',nw w0 ext T wT M w→Step M w w'→nw w0 ext T wT (fun k=>M k∨w.heap.size≤k) w' :=by
 rintro M w w' ⟨⟨M',h1,h2⟩,h3,h4,h5⟩ hs
 refine⟨⟨_,sq w0 ext M' w w' h1 ⟨hs.os,hs.tape,hs.output,hs.size,fun k hk hm=>hs.block k hk fun h=>hm (h2 k h)⟩,fun b hb=>hb.imp (h2 b) id⟩,fun b hb hT=> ?_,fun b hT=> ?_,Nat.le_trans h5 hs.size⟩
 ·rcases hb with hb|hb
  ·exact h3 b hb hT
  ·have:=(h4 b hT).1;omega
 ·obtain⟨e1,e2⟩:=h4 b hT
  exact⟨e1,(hs.block b (by omega) (fun hm=>h3 b hm hT)).trans e2⟩
section
variable {Z:Seat} {nt:Nat} {w0:World} {κ0 κp:Nat→Nat→Option Value} {ext:Option Nat} {γp:Nat→Nat} {svp:Nat→Value} {T:Nat→Prop}
theorem cV.other{κ:Nat→Nat→Option Value}{sv:Nat→Value}{S:St}{W W' :World}{ro:Option Nat}{cl:_}(h:cV ⟨Z,nt,w0,κ0,ext,fun _=>False,κp,γp,svp,T,false,ro,gw w0 ext,cl,fun _=>false⟩ κ sv S W)(hs:Step T W W')(hT:∀b,T b→w0.heap.size≤b):
 cV ⟨Z,nt,w0,κ0,ext,fun _=>False,κp,γp,svp,lj T W W',false,ro,gw w0 ext,cl,fun _=>false⟩ κ sv S W' :=by
 obtain⟨h1,h2,h3,h4,h5,⟨M,h6,h6'⟩,h7,h8,h9,h10,h11,h12,h13,h14⟩:=h
 have hlt:∀b o v,κ b o=some v→b<W.heap.size:=fun b o v hk=>by have:=World.block_lt_of_cell? W _ (h1 b o v hk);simpa using this
 refine⟨fun b o v hk=> ?_,fun s=>du (Le.refl _ _ _) rfl (fun b hb=>hs.block b (cy (h2 s) hb) (h13 s b hb)) (h2 s),h3,h4,h5,⟨M, ?_,h6'⟩,h7,h8,h9,Nat.le_trans h10 hs.size,h11,fun b o v hk hT' => ?_,fun s b hb hT' => ?_,fun b hT' => ?_⟩
 ·rw[World.cell?_of_block (hs.block b (hlt b o v hk) (h12 b o v hk))];exact h1 b o v hk
 ·refine⟨⟨hs.os.trans h6.1.os,hs.tape.trans h6.1.tape,hs.output.trans h6.1.output,Nat.le_trans h6.1.size hs.size,fun k hk he=> ?_⟩,h6.2⟩
  exact(hs.block k (Nat.lt_of_lt_of_le hk h6.1.size) (fun hm=>by have:=hT k hm;omega)).trans (h6.1.block k hk he)
 ·rcases hT' with hT' |⟨hT',_⟩
  ·exact h12 b o v hk hT'
  ·have:=hlt b o v hk;omega
 ·rcases hT' with hT' |⟨hT',_⟩
  ·exact h13 s b hb hT'
  ·have:=cy (h2 s) hb;omega
 ·rcases hT' with hT' |⟨_,hT'⟩
  ·exact Nat.lt_of_lt_of_le (h14 b hT') hs.size
  ·exact hT'
theorem cV.lq{κ:Nat→Nat→Option Value}{sv:Nat→Value}{S:St}{W W' :World}{nd nd' :Bool}{ro ro' :Option Nat}{Φ Φ' :(Nat→Prop)→World→Prop}{cl:_}{cl' :_}{T' :Nat→Prop}{κp' :Nat→Nat→Option Value}{γp' :Nat→Nat}{svp' :Nat→Value}
 (h:cV ⟨Z,nt,w0,κ0,ext,fun _=>False,κp,γp,svp,T,nd,ro,Φ,cl,fun _=>false⟩ κ sv S W){D:Nat}(hg:W.grownBy W' (some D))(hn:∃o:Obj,W.heap[D]? =some o∧pW o=false)
 (hΦ:∀M,Φ M W→(∀s b,cw (S.σ s) (sv s)=some b→M b)→∃M',Φ' M' W'∧∀s b,cw (S.σ s) (sv s)=some b→M' b)(hT:∀b,T' b→T b)(hle:Le κp' κ γp' S.γ svp' sv):
 cV ⟨Z,nt,w0,κ0,ext,fun _=>False,κp',γp',svp',T',nd',ro',Φ',cl',fun _=>false⟩ κ sv S W' :=by
 obtain⟨h1,h2,h3,h4,h5,⟨M,h6,h6'⟩,h7,h8,h9,h10,h11,h12,h13,h14⟩:=h
 obtain⟨o0,ho1,ho2⟩:=hn
 have hne:∀s b,cw (S.σ s) (sv s)=some b→W'.heap[b]? =W.heap[b]? :=fun s b hb=>hg.block b (cy (h2 s) hb) (fun e=>by
  obtain⟨o,e1,e2⟩:=iY (h2 s) hb
  simp only[Option.some.injEq]at e
  subst e
  rw[ho1]at e1;cases e1;rw[ho2]at e2;cases e2)
 exact⟨fun b o v hk=>cell_kept (h1 b o v hk) hg (fun r e=>by cases e;exact⟨o0,ho1,CB ho2⟩),fun s=>du (Le.refl _ _ _) rfl (hne s) (h2 s),h3,h4,h5,hΦ M h6 h6',h7,h8,h9,Nat.le_trans h10 hg.size,hle,
  fun b o v hk hb=>h12 b o v hk (hT b hb),fun s b hb hb' =>h13 s b hb (hT b hb'),fun b hb=>Nat.lt_of_lt_of_le (h14 b (hT b hb)) hg.size⟩
def pV(κ κi:Nat→Nat→Option Value):Nat→Nat→Option Value:=fun b o=>match κ b o with|some v=>some v|none=>κi b o
theorem cV.more{κ κi:Nat→Nat→Option Value}{sv:Nat→Value}{S:St}{W:World}{G:Nat→Prop}{its:List D}{vs:List Value}{cl:_}(h:cV ⟨Z,nt,w0,κ0,ext,fun _=>False,κp,γp,svp,T,false,none,gw w0 ext,cl,fun _=>false⟩ κ sv S W)(hT:∀b,T b→w0.heap.size≤b)(hg:F9 T G κp κi W its vs):
 cV ⟨Z,nt,w0,κ0,ext,fun _=>False,κp,γp,svp,mD T G,false,none,gw w0 ext,cl,fun _=>false⟩ (pV κ κi) sv S W∧(∀b o v,κi b o=some v→pV κ κi b o=some v):=by
 obtain⟨h1,h2,h3,h4,h5,h6,h7,h8,h9,h10,h11,h12,h13,h14⟩:=h
 have hle:Le κ (pV κ κi) S.γ S.γ sv sv:=⟨fun b o v hk=>by simp only[pV,hk],fun _=>Nat.le_refl _,fun _ _=>rfl⟩
 have hnew:∀b o v,pV κ κi b o=some v→κ b o=some v∨(κ b o=none∧κi b o=some v∧G b):=fun b o v hk=>by
  unfold pV at hk
  cases hq:κ b o with
  |some u=>rw[hq]at hk;exact .inl hk
  |none=>
   rw[hq]at hk
   rcases(hg.from' b o v hk).1 with h|h
   ·have:=h11.cells b o v h;rw[hq]at this;cases this
   ·exact .inr ⟨rfl,hk,h⟩
 refine⟨⟨fun b o v hk=> ?_,fun s=>du hle rfl (fun _ _=>rfl) (h2 s),h3,fun s b o hs=> ?_,h5,h6,fun g l hl=> ?_,fun b o v hb hk=> ?_,h9,h10,h11.trans hle,fun b o v hk hq=> ?_,fun s b hb hq=>h13 s b hb hq.1,fun b hb=>h14 b hb.1⟩,fun b o v hk=> ?_⟩
 ·rcases hnew b o v hk with h|⟨_,h,_⟩
  ·exact h1 b o v h
  ·exact(hg.from' b o v h).2
 ·cases hq:pV κ κi b o with
  |none=>rfl
  |some v=>
   rcases hnew b o v hq with h|⟨_,_,h⟩
   ·rw[h4 s b o hs]at h;cases h
   ·exact absurd (hg.mine b h) (h13 s b hs)
 ·obtain⟨hc,u,hu,hk⟩:=h7 g l hl
  exact⟨hc,u,hu.mono hle,fun j v hj=>hle.cells _ _ _ (hk j v hj)⟩
 ·rcases hnew b o v hk with h|⟨_,_,h⟩
  ·exact h8 b o v hb h
  ·have:=hT b (hg.mine b h)
   have hb:b<w0.heap.size:=hb
   omega
 ·rcases hnew b o v hk with h|⟨_,_,h⟩
  ·exact h12 b o v h hq.1
  ·exact hq.2 h
 ·unfold pV
  cases hq:κ b o with
  |none=>exact hk
  |some u=>
   have e1:=h1 b o u hq
   rw[(hg.from' b o v hk).2]at e1
   exact e1.symm
def oL(ρ:Nat→D):List Nat→List D→Nat→D
 |t::ts,d::ds=>oL (bM ρ t d) ts ds
 |_,_=>ρ
theorem tc{κ:Nat→Nat→Option Value}{γ:Nat→Nat}{sv:Nat→Value}:∀(ts:List Nat) (ds:List D) (vs:List Value) (ρ:Nat→D) (tm:Array Value),RepL κ γ sv ds vs→(∀i,i<nt→cX κ γ sv (ρ i) (tm.getD i Go.undef))→tm.size=nt→
 (∀i,i<nt→cX κ γ sv (oL ρ ts ds i) (((ts.zip vs).foldl (fun(t:Array Value) (x:Nat×Value)=>t.setIfInBounds x.1 x.2) tm).getD i Go.undef))∧((ts.zip vs).foldl (fun(t:Array Value) (x:Nat×Value)=>t.setIfInBounds x.1 x.2) tm).size=nt
 |[],_,_,_,_,_,h,hz=>⟨h,hz⟩
 |t::ts,_,_,ρ,tm, .nil,h,hz=>⟨h,hz⟩
 |t::ts,_,_,ρ,tm, .cons d v ds vs h1 h2,h,hz=>by
  simp only[oL,List.zip_cons_cons,List.foldl_cons]
  refine tc ts ds vs (bM ρ t d) (tm.setIfInBounds t v) h2 (fun i hi=> ?_) (by simpa using hz)
  rw[kA]
  by_cases e:t=i
  ·subst e;rw[if_pos ⟨rfl,by omega⟩,aj];exact h1
  ·rw[if_neg (fun h=>e h.1),bg _ _ _ _ (fun h=>e h.symm)];exact h i hi
def RU(S:St)(kp:List Nat)(gs:List (Nat×Nat))(os:List (Nat×Own))(h:Nat→Nat):St:=⟨S.ρ,oD h (gs++ko S kp),look .none (os++lv S kp)⟩
def Nz(X:Ctx)(S S' :St)(kp:List Nat)(gs:List (Nat×Nat))(os:List (Nat×Own)):Prop:=∃S'',Wk X S' S''∧fJ S''.γ gs∧fJ S''.σ os∧zm S S'' kp
def gT(Z:Seat)(nt:Nat)(w0:World)(κ0:Nat→Nat→Option Value)(ext:Option Nat)(κp:Nat→Nat→Option Value)(γp:Nat→Nat)(svp:Nat→Value)(T:Nat→Prop)(l:Nat)(Φ:(Nat→Prop)→World→Prop)(cl:∀M w w',Φ M w→Step M w w'→Φ (fun k=>M k∨w.heap.size≤k) w'):Ctx:=
 ⟨Z,nt,w0,κ0,ext,fun _=>False,κp,γp,svp,T,false,some l,Φ,cl,fun _=>false⟩
def Mu(X:Ctx)(S:St)(kp:List Nat)(gs:List (Nat×Nat))(os:List (Nat×Own))(Qx:Code→St→Prop):Exit→St→Prop
 | .normal,S' =>Nz X S S' kp gs os
 | .ret,S' =>Qx .ret S'
 | .exit i,S' =>Qx (.exit i) S'
 |_,_=>False
def K8(Z:Seat)(nt:Nat)(w0:World)(κ0:Nat→Nat→Option Value)(ext:Option Nat)(assign body:Code)(S S1:St)(kp:List Nat)(gs' :List (Nat×Nat))(os' :List (Nat×Own))(Qx:Code→St→Prop):Prop:=
 ∀κp γp svp T l Φ cl,W (gT Z nt w0 κ0 ext κp γp svp T l Φ cl) assign (fun e S2=>e= .normal∧∀Φ' cl',W (gT Z nt w0 κ0 ext κp γp svp T l Φ' cl') body (Mu (gT Z nt w0 κ0 ext κp γp svp T l Φ' cl') S kp gs' os' Qx) S2) S1
theorem Cv{g:Operand}{ps:Array Nat}{assign body:Code}{S:St}{Q:Exit→St→Prop}{gf:FuncId}{cap:List D}{n:Nat}(args:Nat→List D)
 (hg:S.ev (Ctx.plain Z nt w0 κ0 ext) g= .fn gf cap)(hc:Og Z gf cap n args)(hps:∀k,k<n→(args k).length=ps.size)
 (kp:List Nat)(gs:Nat→List (Nat×Nat))(os:Nat→List (Nat×Own))(Qx:Code→St→Prop)(h0:fJ S.γ (gs 0)∧fJ S.σ (os 0))
 (hround:∀k h,k<n→(∀s,S.γ s≤oD h (gs k++ko S kp) s)→K8 Z nt w0 κ0 ext assign body S ⟨oL S.ρ ps.toList (args k),oD h (gs k++ko S kp),look .none (os k++lv S kp)⟩ kp (gs (k+1)) (os (k+1)) Qx)
 (hdone:∀h,Q .normal (RU S kp (gs n) (os n) h))(hret:∀S',Qx .ret S'→Q .ret ⟨S.ρ,S'.γ,S'.σ⟩)(hexit:∀i S',Qx (.exit i) S'→Q (.exit i) ⟨S.ρ,S'.γ,S'.σ⟩)(hQx:∀c S',Qx c S'→c= .ret∨∃i,c= .exit i):
 W (Ctx.plain Z nt w0 κ0 ext) (.rangeFunc g ps assign body) Q S:=by
 intro κ sv a w hs
 have hev:=hs.ev g
 rw[hg]at hev
 obtain⟨lb,hae,hlb⟩:∃lb:List Value,a.eval g= .func (.func gf) #[] lb.toArray∧RepL κ S.γ sv cap lb:=by
  generalize a.eval g=v at hev
  cases hev with
  |fn _ _ vs hl=>exact⟨vs,rfl,hl⟩
 obtain⟨fnb,cb,hf1,hf2,hf3⟩:=hc.body
 obtain⟨Ds,d1,d2,d3,_⟩:=hs.defers
 refine wpIn_rangeFunc ?_
 intro fn hfn
 obtain⟨rec,hrec⟩:∃rec:LoopState→Option Code→Loop,rec=fun st pe=>{state:=st,pending:=pe,fn,tmps:=a.tmps,params:=ps,assign,body,defers:=w.heap.size}:=⟨_,rfl⟩
 obtain⟨W1,hW1⟩:∃W1,(w.alloc (.deferred (some []))).alloc (.loop (rec .ready none))=W1:=⟨_,rfl⟩
 have hsz1:W1.heap.size=w.heap.size+2:=by rw[←hW1];simp
 have hL1:W1.heap[w.heap.size+1]? =some (.loop (rec .ready none)):=by
  rw[←hW1];have:=World.alloc_heap_new (w.alloc (.deferred (some []))) (.loop (rec .ready none));rwa[World.size_alloc]at this
 have hK1:W1.heap[w.heap.size]? =some (.deferred (some [])):=by
  rw[←hW1];exact(Below.heap_alloc _ _ _ (by simp)).trans (World.alloc_heap_new w _)
 have hb1:Below w.heap.size w W1:=by
  rw[←hW1];exact((Below.refl _ w).alloc (Nat.le_refl _) _).alloc (by simp) _
 have hs1:=hs.later hb1
 refine⟨w.heap.size+1,[mark w.heap.size],W1,{target:= .fn (.func gf) lb.toArray,args:= #[.func (.yield (w.heap.size+1)) #[] #[]]},W1,gf,
  (Value.func (.yield (w.heap.size+1)) #[] #[]::lb).toArray,W1, ?_, ?_, ?_, ?_,fun h=>(by simp[Ctx.F,Fence.wide]at h), ?_⟩
 ·rw[←hW1,hrec];exact run_enterLoop_outer _ _ _ _ _
 ·simp only[resolve,hae]
  simp[go_sem]
 ·intro f' hf';trivial
 ·have eg:∀args w,(callFunc gf args).run (Ctx.plain Z nt w0 κ0 ext).Z.P w= .ok (.enter gf args) w:=fun args w=>by
   have h1:fnb.name≠ "runtime.NumGoroutine" :=by simpa using hf3
   have hf1' :(Ctx.plain Z nt w0 κ0 ext).Z.P.funcs[gf]? =some fnb:=hf1
   simp[callFunc,hf1',h1,hf2,Go.mark]
  simp[invoke,go_sem,eg]
 --what holds between two rounds
 let XP:(Nat→Prop)→Ctx:=fun T=>⟨Z,nt,w0,κ0,ext,fun _=>False,κ,S.γ,sv,T,false,none,gw w0 ext,sq w0 ext,fun _=>false⟩
 let others:World→Prop:=fun W=>∀(b:Nat) (o:Obj),w.heap[b]? =some o→pW o=false→W.heap[b]? =some o
 let J:(Nat→Prop)→Nat→World→Prop:=fun T k W=>(∃κ' sv' h,cV (XP T) κ' sv' (RU S kp (gs k) (os k) h) W)∧(∀b,T b→W1.heap.size≤b)∧W.heap[w.heap.size+1]? =some (.loop (rec .ready none))∧W.heap[w.heap.size]? =some (.deferred (some []))∧others W
 let Jx:(Nat→Prop)→Nat→World→Prop:=fun T _ W=>∃c,(∃κ' sv' S',cV (XP T) κ' sv' S' W∧Qx c S')∧(∀b,T b→W1.heap.size≤b)∧W.heap[w.heap.size+1]? =some (.loop (rec .done (some c)))∧W.heap[w.heap.size]? =some (.deferred (some []))∧others W
 have hbase:=hs.wld.base
 have hbase' :w0.heap.size≤w.heap.size:=hbase
 have stp:∀{T:Nat→Prop} {W W' :World} {b:Nat} {o:Obj},Step T W W'→(∀b,T b→W1.heap.size≤b)→b<W1.heap.size→W.heap[b]? =some o→W'.heap[b]? =some o:=fun hst hT hb ho=>by
  rw[hst.block _ (Array.getElem?_eq_some_iff.1 ho).1 (fun h=>by have:=hT _ h;omega)];exact ho
 have growT_ge:∀{T:Nat→Prop} {W W' :World},(∀b,T b→W1.heap.size≤b)→W1.heap.size≤W.heap.size→∀b,lj T W W' b→W1.heap.size≤b:=fun hT hW b hb=>by
  rcases hb with hb|⟨hb,_⟩
  ·exact hT b hb
  ·omega
 have szOf:∀{W:World} {o:Obj},W.heap[w.heap.size+1]? =some o→W1.heap.size≤W.heap.size:=fun h=>by
  have:=(Array.getElem?_eq_some_iff.1 h).1;omega
 have oth_stp:∀{T:Nat→Prop} {W W' :World},Step T W W'→(∀b,T b→W1.heap.size≤b)→others W→others W' :=fun hst hT ho b o hb hc=>by
  refine stp hst hT ?_ (ho b o hb hc)
  have:=(Array.getElem?_eq_some_iff.1 hb).1;omega
 have hJc:∀T k W W',J T k W→Step T W W'→J (lj T W W') k W' :=by
  rintro T k W W' ⟨⟨κ',sv',h,hw⟩,hT,hl,hk,ho⟩ hst
  exact⟨⟨κ',sv',h,hw.other hst (fun b hb=>by have:=hT b hb;omega)⟩,growT_ge hT (szOf hl),stp hst hT (by omega) hl,stp hst hT (by omega) hk,oth_stp hst hT ho⟩
 have hJxc:∀T k W W',Jx T k W→Step T W W'→Jx (lj T W W') k W' :=by
  rintro T k W W' ⟨c,⟨κ',sv',S',hw,hq⟩,hT,hl,hk,ho⟩ hst
  exact⟨c,⟨κ',sv',S',hw.other hst (fun b hb=>by have:=hT b hb;omega),hq⟩,growT_ge hT (szOf hl),stp hst hT (by omega) hl,stp hst hT (by omega) hk,oth_stp hst hT ho⟩
 have h00:J (fun _=>False) 0 W1:=by
  refine⟨⟨κ,sv,S.γ, ?_⟩,fun _ h=>h.elim,hL1,hK1,fun b o hb _=> ?_⟩
  ·have hm:fJ S.γ (gs 0++ko S kp)∧fJ S.σ (os 0++lv S kp):=⟨cG h0.1 (oO S kp),cG h0.2 (oZ S kp)⟩
   have hw:=(uT (S:=S) (S' :=RU S kp (gs 0) (os 0) S.γ) (fun i=> .inr rfl) (oa (fun _=>Nat.le_refl _) hm.1) (look_ok hm.2) hs1).wld
   obtain⟨e1,e2,e3,e4,e5,e6,e7,e8,e9,e10,e11,e12,e13,e14⟩:=hw
   exact⟨e1,e2,e3,e4,e5,e6,e7,e8,e9,e10,⟨fun _ _ _ h=>h,oa (fun _=>Nat.le_refl _) hm.1,fun _ _=>rfl⟩,fun _ _ _ _ h=>h,fun _ _ _ h=>h,fun _ h=>h.elim⟩
  ·rw[hb1.block b (Array.getElem?_eq_some_iff.1 hb).1];exact hb
 have hfits1:Fits κ W1:=hs1.wld.imm
 refine(A9 (X:=Ctx.plain Z nt w0 κ0 ext) (n:=0) ((callsIn_wide (n:=0)).1 (hc.it W1 κ lb hfits1 (dh.fV hs1.wld) (hlb.pure (fun _ _ _ h=>h) hc.pureC) (w.heap.size+1) J Jx hJc hJxc ?_ h00))).mono ?_
 ·--one round
  rintro T0 k W vs G κi ⟨⟨κ0',sv',h,hw0'⟩,hT0,hl,hk,ho⟩ hkn hcells hgv
  obtain⟨hw,hji⟩:=hw0'.more (fun b hb=>by have:=hT0 b hb;omega) hgv
  have hT:∀b,mD T0 G b→W1.heap.size≤b:=fun b hb=>hT0 b hb.1
  have hlen:vs.length=(args k).length:=hgv.rep.length
  generalize mD T0 G=T at hw hT⊢
  generalize hκj:pV κ0' κi=κ' at hw hji
  have hy:=run_yield (P:=Z.P) (args:=vs.toArray) hl (by rw[hrec,List.size_toArray,hlen];exact hps k hkn)
  rw[hrec]at hy
  refine⟨fn,_,assign,body,hy,roundIn_of_wpIn trivial ?_⟩
  have hfold:(ps.zip vs.toArray).foldl (fun tmps (t,a)=>tmps.setIfInBounds t a) a.tmps=(ps.toList.zip vs).foldl (fun(t:Array Value) (x:Nat×Value)=>t.setIfInBounds x.1 x.2) a.tmps:=by
   rw[←Array.foldl_toList,Array.toList_zip]
  have hlW:w.heap.size+1<W.heap.size:=(Array.getElem?_eq_some_iff.1 hl).1
  let Ta:Nat→Prop:=fun b=>(T b∨∃o:Obj,W.heap[b]? =some o∧pW o=false)∨∃o v,κ b o=some v
  have hTl:Ta (w.heap.size+1):= .inl (.inr ⟨_,hl,rfl⟩)
  have hTlt:∀b,Ta b→b<W.heap.size:=by
   rintro b ((hb|⟨o,hb,_⟩)|⟨o,v,hb⟩)
   ·exact hw.aw3 b hb
   ·exact(Array.getElem?_eq_some_iff.1 hb).1
   ·have:=World.block_lt_of_cell? W _ (hcells b o v hb);simpa using this
  have hκne:∀b o v,κ b o=some v→b≠w.heap.size+1:=by
   intro b o v hb e
   subst e
   have:=hcells _ o v hb
   simp[World.cell?,hl]at this
  --the assignment
  have hsa:cV (gT Z nt w0 κ0 ext κ S.γ sv T (w.heap.size+1) (nw w0 ext Ta W) (jl w0 ext Ta W)) κ' sv' ⟨oL S.ρ ps.toList (args k),oD h (gs k++ko S kp),look .none (os k++lv S kp)⟩ W:=by
   have h1:cV (XP T) κ' sv' ⟨oL S.ρ ps.toList (args k),oD h (gs k++ko S kp),look .none (os k++lv S kp)⟩ W:=hw.oM rfl rfl
   refine h1.lq (D:=w.heap.size+1) (bN (Below.refl _ _) _) ⟨_,hl,rfl⟩ (fun M hM1 hM2=>⟨fun b=>∃s,cw (look .none (os k++lv S kp) s) (sv' s)=some b,⟨⟨M,hM1,fun b ⟨s,hb⟩=>hM2 s b hb⟩, ?_,fun b hb=>⟨hTlt b hb,rfl⟩,Nat.le_refl _⟩,fun s b hb=>⟨s,hb⟩⟩) (fun _ h=>h) hw.le
   rintro b ⟨s,hb⟩ ((hb2|⟨o,hb2,hb3⟩)|⟨o,v,hb2⟩)
   ·exact hw.aw2 s b hb hb2
   ·obtain⟨o',e1,e2⟩:=iY (hw.own s) hb
    rw[e1]at hb2;cases hb2;rw[hb3]at e2;cases e2
   ·have:=hw.sep s b o hb
    rw[hw.le.cells b o v hb2]at this;cases this
  have hslots:=tc ps.toList (args k) vs S.ρ a.tmps ((hgv.rep.pure hji (hc.pureI k hkn):RepL κ' (oD h (gs k++ko S kp)) sv' (args k) vs)) (fun i hi=>(hs.slot i hi).mono hw.le) hs.size
  have hra:=hround k h hkn hw.le.gens κ S.γ sv T (w.heap.size+1) (nw w0 ext Ta W) (jl w0 ext Ta W) κ' sv' {tmps:=(ps.toList.zip vs).foldl (fun(t:Array Value) (x:Nat×Value)=>t.setIfInBounds x.1 x.2) a.tmps,defers:=[]} W
   ⟨hslots.2,sR.nil rfl,hslots.1,hsa⟩
  rw[hfold]
  refine wpIn_mono hra ?_
  rintro e a1 w1 ⟨κ1,sv1,S1,hs1',rfl,hbody⟩
  obtain⟨M1,⟨⟨M1',p1,p2⟩,p3,p4,p5⟩,hM1⟩:=hs1'.wld.frame
  have hl1:w1.heap[w.heap.size+1]? =some (.loop (rec .ready none)):=(p4 _ hTl).2.trans hl
  refine⟨_,run_beginRound hl1 (by rw[hrec]), ?_⟩
  obtain⟨w2,hw2⟩:∃w2,w1.putObj (w.heap.size+1) (.loop {rec .ready none with state:= .busy})=w2:=⟨_,rfl⟩
  rw[hw2]
  have hg2:w1.grownBy w2 (some (w.heap.size+1)):=by rw[←hw2];exact grownBy_putObj' _ _ _
  have hz2:w2.heap.size=w1.heap.size:=by rw[←hw2];simp
  have hl2:w2.heap[w.heap.size+1]? =some (.loop {rec .ready none with state:= .busy}):=by rw[←hw2];exact World.putObj_heap_same (Array.getElem?_eq_some_iff.1 hl1).1
  have ho2:∀b,b≠w.heap.size+1→w2.heap[b]? =w1.heap[b]? :=fun b hb=>by rw[←hw2];exact World.putObj_heap_other hb
  have frm:∀{M:Nat→Prop} {A B:World},gw w0 ext M A→A.grownBy B (some (w.heap.size+1))→gw w0 ext M B:=fun h1 hg=>
   ⟨⟨hg.os.trans h1.1.os,hg.tape.trans h1.1.tape,hg.output.trans h1.1.output,Nat.le_trans h1.1.size hg.size,fun k hk he=>
     (hg.block k (Nat.lt_of_lt_of_le hk h1.1.size) (fun e=>by simp only[Option.some.injEq]at e;omega)).trans (h1.1.block k hk he)⟩,h1.2⟩
  have hsb:cV (gT Z nt w0 κ0 ext κ S.γ sv T (w.heap.size+1) (nw w0 ext Ta w2) (jl w0 ext Ta w2)) κ1 sv1 S1 w2:=by
   refine hs1'.wld.lq hg2 ⟨_,hl1,rfl⟩ (fun M hM2 hM3=>⟨M, ?_,hM3⟩) (fun _ h=>h) hs1'.wld.le
   obtain⟨⟨M',q1,q2⟩,q3,q4,q5⟩:=hM2
   exact⟨⟨M',frm q1 hg2,q2⟩,q3,fun b hb=>⟨by have:=hTlt b hb;omega,rfl⟩,Nat.le_refl _⟩
  obtain⟨Ds1,t1,t2,t3,t4⟩:=hs1'.defers
  have hrb:=hbody (nw w0 ext Ta w2) (jl w0 ext Ta w2) κ1 sv1 a1 w2 ⟨hs1'.size,⟨Ds1,t1,t2,fun D hD=>⟨(t3 D hD).1,(ho2 D (fun e=>by
   have:=(t3 D hD).2
   rw[e,hl1]at this;cases this)).trans (t3 D hD).2⟩,t4⟩,hs1'.slot,hsb⟩
  refine wpIn_mono hrb ?_
  rintro e a3 w3 ⟨κ3,sv3,S3,hs3,hq⟩
  obtain⟨M3,⟨⟨M3',r1,r2⟩,r3,r4,r5⟩,hM3⟩:=hs3.wld.frame
  have hl3:w3.heap[w.heap.size+1]? =some (.loop {rec .ready none with state:= .busy}):=(r4 _ hTl).2.trans hl2
  have same3:∀b,Ta b→b≠w.heap.size+1→w3.heap[b]? =W.heap[b]? :=fun b hb hne=>(r4 b hb).2.trans ((ho2 b hne).trans (p4 b hb).2)
  have fin:∀(jump:Option Code),∃w4,(Instr.endRound (w.heap.size+1) jump).run Z.P w3= .ok (.bool jump.isNone) w4∧w3.grownBy w4 (some (w.heap.size+1))∧w4.heap[w.heap.size+1]? =some (.loop (rec (if jump.isNone then .ready else .done) jump))∧
   w4.heap[w.heap.size]? =some (.deferred (some []))∧others w4∧Kept T κ W w4:=fun jump=>by
   have h1:=run_endRound (P:=Z.P) jump hl3
   rw[hrec]at h1⊢
   refine⟨_,h1,grownBy_putObj' _ _ _,World.putObj_heap_same (Array.getElem?_eq_some_iff.1 hl3).1, ?_, ?_, ?_⟩
   ·rw[World.putObj_heap_other (by omega),same3 _ (.inl (.inr ⟨_,hk,rfl⟩)) (by omega)];exact hk
   ·intro b o hb hc
    have hlt:=(Array.getElem?_eq_some_iff.1 hb).1
    rw[World.putObj_heap_other (by omega),same3 _ (.inl (.inr ⟨_,ho b o hb hc,hc⟩)) (by omega)];exact ho b o hb hc
   ·refine⟨by simp;omega,fun b hb=> ?_,fun b o v hb=> ?_⟩
    ·have:=hT b hb
     rw[World.putObj_heap_other (by omega),same3 _ (.inl (.inl hb)) (by omega)]
    ·have hne:=hκne b o v hb
     rw[World.cell?_of_block (w:=W) (by rw[World.putObj_heap_other hne,same3 _ (.inr ⟨o,v,hb⟩) hne])]
     exact hcells b o v hb
  have out:∀{κ4 sv4 S4 w4},cV (gT Z nt w0 κ0 ext κ S.γ sv T (w.heap.size+1) (nw w0 ext Ta w2) (jl w0 ext Ta w2)) κ4 sv4 S4 w3→w3.grownBy w4 (some (w.heap.size+1))→cV (XP T) κ4 sv4 S4 w4:=fun h4 hg4=>
   h4.lq hg4 ⟨_,hl3,rfl⟩ (fun M hM2 hM3=>by
    obtain⟨⟨M',q1,q2⟩,_⟩:=hM2
    exact⟨M',frm q1 hg4,fun s b hb=>q2 b (hM3 s b hb)⟩) (fun _ h=>h) h4.le
  cases e with
  |normal=>
   obtain⟨S4,hwk,m1,m2,m3⟩:=hq
   obtain⟨κ4,sv4,hs4⟩:=hwk κ3 sv3 a3 w3 hs3
   obtain⟨w4,f1,f2,f3,f4,f5,f6⟩:=fin none
   have hm:fJ S4.γ (gs (k+1)++ko S kp)∧fJ S4.σ (os (k+1)++lv S kp):=⟨cG m1 (tq m3),cG m2 (sZ m3)⟩
   have h5:=(uT (S:=S4) (S' :=⟨S4.ρ,oD S4.γ (gs (k+1)++ko S kp),look .none (os (k+1)++lv S kp)⟩) (fun i=> .inr rfl) (oa (fun _=>Nat.le_refl _) hm.1) (look_ok hm.2) hs4).wld
   exact⟨_,w4,f1, .inl ⟨rfl,⟨κ4,sv4,S4.γ,(out h5 f2).oM rfl rfl⟩,hT,f3,f4,f5⟩,f6⟩
  |ret=>
   obtain⟨w4,f1,f2,f3,f4,f5,f6⟩:=fin (some .ret)
   exact⟨_,w4,f1, .inr ⟨rfl, .ret,⟨κ3,sv3,S3,out hs3.wld f2,hq⟩,hT,f3,f4,f5⟩,f6⟩
  |exit i=>
   obtain⟨w4,f1,f2,f3,f4,f5,f6⟩:=fin (some (.exit i))
   exact⟨_,w4,f1, .inr ⟨rfl, .exit i,⟨κ3,sv3,S3,out hs3.wld f2,hq⟩,hT,f3,f4,f5⟩,f6⟩
  |goto t=>exact hq.elim
  |panic ch=>exact hq.elim
  |outgrown=>exact hq.elim
 ·--behind the iterator
  have last:∀{T:Nat→Prop} {κ' :Nat→Nat→Option Value} {sv' :Nat→Value} {S' :St} {W:World} {st:LoopState} {pe:Option Code},cV (XP T) κ' sv' S' W→W.heap[w.heap.size+1]? =some (.loop (rec st pe))→W.heap[w.heap.size]? =some (.deferred (some []))→others W→
   ∀o',dh (Ctx.plain Z nt w0 κ0 ext) κ' sv' ⟨S.ρ,S'.γ,S'.σ⟩ {a with defers:=mark w.heap.size::a.defers} (W.putObj (w.heap.size+1) o'):=by
   intro T κ' sv' S' W st pe hw hl hk ho o'
   have hg:=grownBy_putObj' W (w.heap.size+1) o'
   refine⟨hs.size,⟨w.heap.size::Ds,by rw[d1];rfl,List.nodup_cons.2 ⟨fun hm=> ?_,d2⟩,fun D hD=> ?_,fun h=> ?_⟩,fun i hi=>(hs.slot i hi).mono hw.le, ?_⟩
   ·have:=(d3 _ hm).2
    rw[Array.getElem?_eq_none (by simp)]at this;cases this
   ·rcases List.mem_cons.1 hD with rfl|hD
    ·exact⟨hbase',(World.putObj_heap_other (by omega)).trans hk⟩
    ·obtain⟨e1,e2⟩:=d3 D hD
     have hlt:=(Array.getElem?_eq_some_iff.1 e2).1
     exact⟨e1,(World.putObj_heap_other (by omega)).trans (ho D _ e2 rfl)⟩
   ·rename_i h;cases h
   ·have h1:cV (XP T) κ' sv' ⟨S.ρ,S'.γ,S'.σ⟩ W:=hw.oM rfl rfl
    refine h1.lq hg ⟨_,hl,rfl⟩ (fun M hM2 hM3=>⟨M, ?_,hM3⟩) (fun _ h=>h.elim) (hs.wld.le.trans hw.le)
    exact⟨⟨hg.os.trans hM2.1.os,hg.tape.trans hM2.1.tape,hg.output.trans hM2.1.output,Nat.le_trans hM2.1.size hg.size,fun k hk he=>
     (hg.block k (Nat.lt_of_lt_of_le hk hM2.1.size) (fun e=>by simp only[Option.some.injEq]at e;omega)).trans (hM2.1.block k hk he)⟩,hM2.2⟩
  rintro e W2 ⟨⟨v,rfl⟩,(⟨T,⟨κ',sv',h,hw⟩,hT,hl,hk,ho⟩|⟨T,k,_,c,⟨κ',sv',S',hw,hq⟩,hT,hl,hk,ho⟩)⟩
  ·exact⟨none,_,by have:=run_endLoop (P:=Z.P) hl (by rw[hrec];simp);rw[hrec]at this;exact this,κ',sv',_,last hw hl hk ho _,hdone h⟩
  ·refine⟨some c,_,by have:=run_endLoop (P:=Z.P) hl (by rw[hrec];simp);rw[hrec]at this;exact this, ?_⟩
   rcases hQx c S' hq with rfl|⟨i,rfl⟩
   ·exact wpIn_ret ⟨κ',sv',_,last hw hl hk ho _,hret S' hq⟩
   ·exact wpIn_exit ⟨κ',sv',_,last hw hl hk ho _,hexit i S' hq⟩
end
end Go.Ab
namespace Go.Ab
open Go Go.RowKit
def RO(w:World)(J:(Nat→Prop)→World→Prop)(U P:Nat→Prop)(w1:World)(M:Nat→Prop)(W:World):Prop:=∃T,J T W∧(∀b,b<W.heap.size→M b→T b)∧(∀b,w.heap.size≤b→b<W.heap.size→¬U b→T b)∧∀b,P b→T b∧¬M b∧¬U b∧b<W.heap.size∧W.heap[b]? =w1.heap[b]?
theorem OB{w:World}{J:(Nat→Prop)→World→Prop}{U P:Nat→Prop}{w1:World}(hJ:∀T W W',J T W→Step T W W'→J (lj T W W') W'):∀M W W',RO w J U P w1 M W→Step M W W'→RO w J U P w1 (fun k=>M k∨W.heap.size≤k) W' :=by
 rintro M W W' ⟨T,h1,h2,h3,h4⟩ hs
 refine⟨lj T W W',hJ T W W' h1 ⟨hs.os,hs.tape,hs.output,hs.size,fun k hk hT=>hs.block k hk (fun hm=>hT (h2 k hk hm))⟩,fun b hb hM=> ?_,fun b h4 h5 h6=> ?_,fun b hb=> ?_⟩
 ·by_cases e:b<W.heap.size
  ·rcases hM with hM|hM
   ·exact .inl (h2 b e hM)
   ·omega
  ·exact .inr ⟨by omega,hb⟩
 ·by_cases e:b<W.heap.size
  ·exact .inl (h3 b h4 e h6)
  ·exact .inr ⟨by omega,h5⟩
 ·obtain⟨q1,q2,q3,q4,q5⟩:=h4 b hb
  exact⟨.inl q1,fun h=>h.elim q2 (fun h=>by omega),q3,Nat.lt_of_lt_of_le q4 hs.size,(hs.block b q4 q2).trans q5⟩
structure Env where
 Z:Seat
 nt:Nat
 w:World
 κ:Nat→Nat→Option Value
 l:Nat
 n:Nat
 its:Nat→List D
 J:(Nat→Prop)→Nat→World→Prop
 Jx:(Nat→Prop)→Nat→World→Prop
 w1:World
 κ1:Nat→Nat→Option Value
 ex:Nat→Prop
 γp:Nat→Nat
 svp:Nat→Value
 P:Nat→Prop
 hw:w.heap.size≤w1.heap.size
 hex:∀b,ex b→w.heap.size≤b
 hκ:∀b o v,κ b o=some v→κ1 b o=some v
 hκ1:∀b o v,b<w.heap.size→κ1 b o=some v→κ b o=some v
 hJ:∀T k W W',J T k W→Step T W W'→J (lj T W W') k W'
 hJx:∀T k W W',Jx T k W→Step T W W'→Jx (lj T W W') k W'
 hY:∀T k W vs G κi,J T k W→k<n→(∀b o v,κ b o=some v→W.cell? ⟨b,o,none⟩=some v)→F9 T G κ κi W (its k) vs→YieldAt Fence.wide 0 Z.P l vs.toArray W fun e W' =>
  ((e= .returned (.bool true)∧J (mD T G) (k+1) W')∨(e= .returned (.bool false)∧Jx (mD T G) (k+1) W'))∧Kept (mD T G) κ W W'
def Env.K(E:Env)(k:Nat)(s:Bool)(T:Nat→Prop)(W:World):Prop:=match s with|true=>E.Jx T k W|false=>E.J T k W
theorem Env.hK(E:Env)(k:Nat)(s:Bool):∀T W W',E.K k s T W→Step T W W'→E.K k s (lj T W W') W' :=by
 cases s
 ·exact fun T W W' =>E.hJ T k W W'
 ·exact fun T W W' =>E.hJx T k W W'
def Env.X(E:Env)(k:Nat)(s:Bool)(U:Nat→Prop):Ctx:=⟨E.Z,E.nt,E.w1,E.κ1,none,E.ex,E.κ1,E.γp,E.svp,U,true,none,RO E.w (E.K k s) U E.P E.w1,OB (E.hK k s),fun _=>false⟩
def F5(E:Env)(Q:Nat→Bool→Exit→St→Prop):Exit→Act→World→Prop:=fun e a W=>∃k s U κ sv S,dh (E.X k s U) κ sv S a W∧Q k s e S
def WI(E:Env)(c:Code)(Q:Nat→Bool→Exit→St→Prop)(k:Nat)(s:Bool)(S:St):Prop:=∀U κ sv a W,dh (E.X k s U) κ sv S a W→c.wpIn Fence.wide 0 E.Z.P (F5 E Q) a W
def pM(E:Env)(ops:Array Oper)(l:List Oper)(Q:Nat→Bool→Exit→St→Prop)(k:Nat)(s:Bool)(S:St):Prop:=∀U κ sv a W,dh (E.X k s U) κ sv S a W→wpListIn Fence.wide 0 E.Z.P ops (F5 E Q) l a W
section
variable {E:Env} {Q:Nat→Bool→Exit→St→Prop} {k:Nat} {s:Bool} {S S1:St}
theorem Mf{c:Code}(h:∀U,W (E.X k s U) c (Q k s) S):WI E c Q k s S:=fun U κ sv a W hs=>by
 refine wpIn_mono (h U κ sv a W hs) ?_
 rintro e a' W' ⟨κ',sv',S',h1,h2⟩
 exact⟨k,s,U,κ',sv',S',h1,h2⟩
def fQ(E:Env)(y:Code)(Q:Nat→Bool→Exit→St→Prop):Nat→Bool→Exit→St→Prop
 |k,s, .normal,S=>WI E y Q k s S
 |k,s,e,S=>Q k s e S
def eC(id:Nat)(Q:Nat→Bool→Exit→St→Prop):Nat→Bool→Exit→St→Prop
 |k,s, .exit i,S=>bif Nat.beq i id then Q k s .normal S else Q k s (.exit i) S
 |k,s,e,S=>Q k s e S
theorem DL{x y:Code}(h:WI E x (fQ E y Q) k s S):WI E (.seq x y) Q k s S:=fun U κ sv a W hs=>by
 refine wpIn_seq (wpIn_mono (h U κ sv a W hs) ?_)
 rintro e a' W' ⟨k',s',U',κ',sv',S',h1,h2⟩
 cases e<;>first|exact h2 U' κ' sv' a' W' h1|exact⟨k',s',U',κ',sv',S',h1,h2⟩
theorem xq{id:Nat}{c:Code}(h:WI E c (eC id Q) k s S):WI E (.block id c) Q k s S:=fun U κ sv a W hs=>by
 refine wpIn_block (wpIn_mono (h U κ sv a W hs) ?_)
 rintro e a' W' ⟨k',s',U',κ',sv',S',h1,h2⟩
 cases e with
 |exit i=>
  simp only[Exit.inBlock]
  simp only[eC]at h2
  split
  ·rename_i e;subst e;rw[Nat.beq_refl]at h2;exact⟨k',s',U',κ',sv',S',h1,h2⟩
  ·rename_i e
   have:Nat.beq i id=false:=by
    cases hb:Nat.beq i id
    ·rfl
    ·exact absurd (Nat.eq_of_beq_eq_true hb) e
   rw[this]at h2;exact⟨k',s',U',κ',sv',S',h1,h2⟩
 |_=>exact⟨k',s',U',κ',sv',S',h1,h2⟩
theorem Gn{c:Code}{α:Type}(F:α→Nat×Bool×St)(inv:α→Prop)(μ:α→Nat)(x0:α)(h0:inv x0)(hs:(F x0).1=k∧(F x0).2.1=s∧∀U,Wk (E.X k s U) S (F x0).2.2)
 (round:∀x,inv x→WI E c (fun k' s' e S' =>match e with| .normal=>∃x',inv x'∧μ x' <μ x∧(F x').1=k'∧(F x').2.1=s'∧∀U,Wk (E.X k' s' U) S' (F x').2.2|e=>Q k' s' e S') (F x).1 (F x).2.1 (F x).2.2):WI E (.loop c) Q k s S:=by
 intro U κ sv a W hsim
 have key:∀m x U κ sv a W,inv x→μ x<m→dh (E.X (F x).1 (F x).2.1 U) κ sv (F x).2.2 a W→Code.roundsIn Fence.wide 0 E.Z.P c (F5 E Q) m a W:=by
  intro m
  induction m with
  |zero=>intro x U κ sv a W _ h;omega
  |succ m ih=>
   intro x U κ sv a W hi hm hx
   rw[roundsIn_succ]
   refine wpIn_mono (round x hi U κ sv a W hx) ?_
   rintro e a' W' ⟨k',s',U',κ',sv',S',h1,h2⟩
   cases e with
   |normal=>
    obtain⟨x',hi',hm',rfl,rfl,hw⟩:=h2
    obtain⟨κ2,sv2,hx'⟩:=hw U' κ' sv' a' W' h1
    exact ih x' U' κ2 sv2 a' W' hi' (by omega) hx'
   |_=>exact⟨k',s',U',κ',sv',S',h1,h2⟩
 obtain⟨e1,e2,e3⟩:=hs
 obtain⟨κ1,sv1,hx⟩:=e3 U κ sv a W hsim
 subst e1 e2
 exact wpIn_loop_rounds (μ x0+1) (key _ x0 U κ1 sv1 a W h0 (Nat.lt_succ_self _) hx)
theorem Py{c:Code}{S' :St}(hw:∀U,Wk (E.X k s U) S S')(h:WI E c Q k s S'):WI E c Q k s S:=fun U κ sv a W hs=>
 let⟨κ',sv',hs'⟩:=hw U κ sv a W hs
 h U κ' sv' a W hs'
theorem Hh{F:Fence}{n:Nat}{P:Program}{o:Oper}{a:Act}{w:World}{K K' :Act→World→Prop}{Q1 Q2:Exit→Act→World→Prop}(h:∀a w,K a w→K' a w)(hq:∀e a w,e≠ .normal→Q1 e a w→Q2 e a w)
 (hh:o.wpIn F n P a w K Q1):o.wpIn F n P a w K' Q2:=by
 unfold Oper.wpIn at*
 refine⟨hh.1, ?_⟩
 have hh:=hh.2
 generalize (o.semAt F.round a.eval).run P w=r at*
 have lo:LetsOut Q1→LetsOut Q2:=fun⟨a,w,h⟩=>⟨a,w,hq _ _ _ (by simp) h⟩
 cases r with
 |ok x w' =>
  cases x<;>simp only[Oper.uponIn]at hh⊢<;>
   first
    |exact h _ _ hh
    |exact⟨hh.1,CallsIn.mono hh.2 (fun e w'' he=>by cases e<;>first|exact h _ _ he|exact hq _ _ _ (by simp) he|exact lo he)⟩
    |exact⟨hh.1,RowsIn.mono hh.2 (fun _ _ he=>h _ _ he)⟩
    |exact⟨hh.1,RoundIn.mono hh.2 (fun e w'' he=>by cases e<;>first|exact h _ _ he|exact hq _ _ _ (by simp) he|exact lo he)⟩
 |halt x w' =>cases x<;>simp only[Oper.uponIn]at hh⊢<;>first|exact hq _ _ _ (by simp) hh|exact hh
theorem gO{F:Fence}{n:Nat}{P:Program}{ops:Array Oper}{Q1 Q2:Exit→Act→World→Prop}{l2:List Oper}(hn:∀a w,Q1 .normal a w→wpListIn F n P ops Q2 l2 a w)(hq:∀e a w,e≠ .normal→Q1 e a w→Q2 e a w):
 ∀(l1:List Oper) (a:Act) (w:World),wpListIn F n P ops Q1 l1 a w→wpListIn F n P ops Q2 (l1++l2) a w
 |[],a,w,h=>hn a w h
 |o::l1,a,w,h=>by
  simp only[List.cons_append,wpListIn]at h⊢
  split
  ·rename_i hw
   rw[if_pos hw]at h
   exact Hh (fun a w h=>gO hn hq l1 a w h) hq h
  ·rename_i hw
   rw[if_neg hw]at h
   exact⟨h.1,gO hn hq l1 _ _ h.2⟩
theorem zR{id:Nat}{l:List Oper}(h:pM E l.toArray l Q k s S):WI E (.region id l.toArray false) Q k s S:=fun U κ sv a W hs=>wpIn_region_lit (h U κ sv a W hs)
theorem J7{ops:Array Oper}{l:List Oper}(h:∀U,WL (E.X k s U) ops l (Q k s) S):pM E ops l Q k s S:=fun U κ sv a W hs=>by
 have:=gO (l2:=[]) (Q2:=F5 E Q) (fun a w ⟨κ',sv',S',h1,h2⟩=>⟨k,s,U,κ',sv',S',h1,h2⟩) (fun e a w _ ⟨κ',sv',S',h1,h2⟩=>⟨k,s,U,κ',sv',S',h1,h2⟩) l a W (h U κ sv a W hs)
 rwa[List.append_nil]at this
theorem Ch{ops:Array Oper}(l1 l2:List Oper)(h1:∀U,WL (E.X k s U) ops l1 (fun e S' =>e= .normal∧pM E ops l2 Q k s S') S):pM E ops (l1++l2) Q k s S:=fun U κ sv a W hs=>
 gO (fun a w ⟨κ',sv',S',h,_,h2⟩=>h2 U κ' sv' a w h) (fun e a w hne ⟨_,_,_,_,h,_⟩=>absurd h hne) l1 a W (h1 U κ sv a W hs)
inductive OZ (S:St) (ps:List Nat):D→D→Prop
 |conv (d d' :D):(∀(κ:Nat→Nat→Option Value) (γ:Nat→Nat) (sv:Nat→Value) (v:Value),cX κ γ sv d v→∀(κ' :Nat→Nat→Option Value) (γ' :Nat→Nat) (sv' :Nat→Value),cX κ' γ' sv' d' v)→OZ S ps d d'
 |os (s g E z n:Nat) (f:Nat→List D):S.γ s=g→S.σ s= .arr E z n f→s∈ps→(∀i,i<n→∃vs,lA (f i)=some vs)→OZ S ps (.os s g) (.sl z n f)
inductive xR (S:St) (ps:List Nat):List D→List D→Prop
 |nil:xR S ps [] []
 |cons (d d' :D) (l l' :List D):OZ S ps d d'→xR S ps l l'→xR S ps (d::l) (d' ::l')
def St.drop(S:St)(ps:List Nat):St:=⟨S.ρ,S.γ,fun s=>bif cY s ps then .none else S.σ s⟩
open Classical in
noncomputable def ym(κ:Nat→Nat→Option Value)(G:Nat→Prop)(W:World):Nat→Nat→Option Value:=fun b o=>if G b then W.cell? ⟨b,o,none⟩else κ b o
section
variable {κ' :Nat→Nat→Option Value} {sv:Nat→Value} {S:St} {ps:List Nat} {W:World} {X:Ctx}
open Classical in
theorem OZ.rep(h:cV X κ' sv S W){κ:Nat→Nat→Option Value}{G:Nat→Prop}(hG:∀p∈ps,∀b,cw (S.σ p) (sv p)=some b→G b){d d' :D}{v:Value}(hd:OZ S ps d d')(hr:cX κ' S.γ sv d v):cX (ym κ G W) tn m9 d' v:=by
 cases hd with
 |conv _ _ hc=>exact hc _ _ _ _ hr _ _ _
 |os s g E z n f hg hσ hm hf=>
  have hown:=h.own s
  rw[hσ]at hown
  obtain⟨xs,e1,e2,e3,e4⟩:=hown
  cases hr with
  |os _ _ _ _ hh _=>
   have hv:=hh hg.symm
   have hrow:∀i,i<n→RepL (ym κ G W) tn m9 (f i) ((xs.drop (i*z)).take z):=fun i hi=>by
    obtain⟨vs,hvs⟩:=hf i hi
    rw[wD hvs (e4 i hi)]
    exact s6 hvs
   rcases e1.2 with⟨hn,h0⟩|⟨b,off,cap,cur,hn,h0,h5,h6,h7,h8,h9⟩
   ·rw[hv,hn,h0];exact .sl0 _ _
   ·have hb:G b:=hG s hm b (by rw[hσ,hn];rfl)
    rw[hv,hn]
    refine .sl z n f b off cap (fun i=>(xs.drop (i*z)).take z) h6 e2 e3 hrow (fun i j u hi hj=> ?_)
    unfold ym
    rw[if_pos hb,cell_of_row W b (off+i*z+j) cur E (0,0) h5]
    rw[List.getElem?_take]at hj
    split at hj
    ·rename_i hjz
     rw[List.getElem?_drop]at hj
     rw[←h9,List.getElem?_take]at hj
     split at hj
     ·rw[List.getElem?_drop]at hj
      rw[show off+i*z+j=off+(i*z+j) by omega]
      simpa using hj
     ·cases hj
    ·cases hj
open Classical in
theorem xR.rep(h:cV X κ' sv S W){κ:Nat→Nat→Option Value}{G:Nat→Prop}(hG:∀p∈ps,∀b,cw (S.σ p) (sv p)=some b→G b):∀{l l' :List D} {vs:List Value},xR S ps l l'→RepL κ' S.γ sv l vs→RepL (ym κ G W) tn m9 l' vs
 |_,_,_, .nil,hr=>by cases hr;exact .nil
 |_,_,_, .cons d d' l l' a b,hr=>by
  cases hr with
  |cons _ _ _ _ r1 r2=>exact .cons _ _ _ _ (a.rep h hG r1) (xR.rep h hG b r2)
end
open Classical in
theorem yz{ops:Array Oper}{o:Oper}{rest:List Oper}{x:Operand}{xs:Array Operand}{ts:Array TypeId}{d:Nat}{A:List D}{ps:List Nat}(ho:o.op= .call {callee:= .value x,args:=xs,argTypes:=ts})(hg:o.guard=none)(hd:o.dst=some d)
 (hx:S.ev (E.X k false fun _=>False) x= .yl E.l)(hA:xs.toList.map (S.ev (E.X k false fun _=>False))=A)(hv:xR S ps A (E.its k))(hk:k<E.n)
 (hT:pM E ops rest Q (k+1) false ((S.drop ps).set d (.bool true)))(hF:pM E ops rest Q (k+1) true ((S.drop ps).set d (.bool false))):pM E ops (o::rest) Q k false S:=fun U κ' sv a W hs=>by
 obtain⟨M,⟨T,t1,t2,t3,t4⟩,hown⟩:=hs.wld.frame
 have hκ:∀b o v,E.κ b o=some v→W.cell? ⟨b,o,none⟩=some v:=fun b o v hb=>hs.wld.imm b o v (hs.wld.le.cells b o v (E.hκ b o v hb))
 let G:Nat→Prop:=fun b=>∃p∈ps,cw (S.σ p) (sv p)=some b
 have hav:=en hs xs.toList
 have hA' :xs.toList.map (S.ev (E.X k false U))=A:=hA
 rw[hA']at hav
 have hgiv:F9 T G E.κ (ym E.κ G W) W (E.its k) (xs.toList.map a.eval):=by
  refine⟨fun b ⟨p,hp,hb⟩=>t2 b (cy (hs.wld.own p) hb) (hown p b hb),fun b o v hq=> ?_,hv.rep (G:=G) hs.wld (fun p hp b hb=>⟨p,hp,hb⟩) hav⟩
  unfold ym at hq
  split at hq
  ·rename_i hgb;exact⟨.inr hgb,hq⟩
  ·exact⟨.inl hq,hκ b o v hq⟩
 obtain⟨fn,tmps,assign,body,y1,y2⟩:=E.hY T k W _ G _ t1 hk hκ hgiv
 have hxv:a.eval x= .func (.yield E.l) #[] #[]:=by
  have:=hs.ev x
  have h2:S.ev (E.X k false U) x= .yl E.l:=hx
  rw[h2]at this
  generalize a.eval x=v at this
  cases this;rfl
 have hrun:(execOp a.eval o).run E.Z.P W= .ok (.round E.l fn tmps assign body) W:=by
  have h4:execOp a.eval o=Instr.yield E.l (xs.map a.eval):=by
   unfold execOp;rw[ho];simp[resolve,Deferred.ofValue,hxv,invoke]
  have h5:xs.map a.eval=(xs.toList.map a.eval).toArray:=by simp[←Array.toList_map]
  rw[h4,h5];exact y1
 refine wpListIn_plain hg fun K hK=>⟨fun _ _=>trivial, ?_⟩
 rw[show Fence.wide.round=none from rfl,Oper.semAt_none,hrun]
 refine⟨fun h=>(by simp[Fence.wide]at h),y2.mono ?_⟩
 rintro e W' ⟨hor,hkept⟩
 let U' :Nat→Prop:=fun b=>U b∨(W.heap.size≤b∧b<W'.heap.size)∨G b
 have hlt:∀b o v,κ' b o=some v→b<W.heap.size:=fun b o v hb=>by have:=World.block_lt_of_cell? W _ (hs.wld.imm b o v hb);simpa using this
 have hnG:∀b o v,κ' b o=some v→¬G b:=fun b o v hb ⟨p,hp,hpb⟩=>by rw[hs.wld.sep p b o hpb]at hb;cases hb
 have same:∀b o v,κ' b o=some v→W'.cell? ⟨b,o,none⟩=some v:=by
  intro b o v hb
  by_cases e:b<E.w.heap.size
  ·exact hkept.cell b o v (E.hκ1 b o v e (hs.wld.old b o v (Nat.lt_of_lt_of_le e E.hw) hb))
  ·have hT:T b:=t3 b (by omega) (hlt b o v hb) (hs.wld.aw1 b o v hb)
   rw[World.cell?_of_block (hkept.mine b ⟨hT,hnG b o v hb⟩)];exact hs.wld.imm b o v hb
 have hdr:∀t b,cw ((S.drop ps).σ t) (sv t)=some b→t∉ps∧cw (S.σ t) (sv t)=some b:=fun t b hb=>by
  have hb:cw (bif cY t ps then .none else S.σ t) (sv t)=some b:=hb
  cases hm:cY t ps with
  |true=>rw[hm]at hb;cases hb
  |false=>rw[hm]at hb;exact⟨fun h=>(by rw[cu.2 h]at hm;cases hm),hb⟩
 have hnot:∀t b,cw ((S.drop ps).σ t) (sv t)=some b→¬G b:=fun t b hb ⟨p,hp,hpb⟩=>by
  obtain⟨h1,h2⟩:=hdr t b hb
  exact h1 (hs.wld.inj t p b h2 hpb▸hp)
 have goon:∀(s' :Bool),E.K (k+1) s' (mD T G) W'→cV (E.X (k+1) s' U') κ' sv (S.drop ps) W' :=fun s' hK' =>by
  obtain⟨h1,h2,h3,h4,h5,_,h7,h8,h9,h10,h11,h12,h13,h14⟩:=hs.wld
  refine⟨same,fun t=> ?_,fun t u b ht hu=>h3 t u b (hdr t b ht).2 (hdr u b hu).2,fun t b o ht=>h4 t b o (hdr t b ht).2,fun t b ht=>h5 t b (hdr t b ht).2,
   ⟨fun b=>(M b∧b<W.heap.size)∧¬G b,⟨mD T G,hK',fun b _ hM=>⟨t2 b hM.1.2 hM.1.1,hM.2⟩,fun b e1 e2 e3=> ?_,fun b hP=> ?_⟩,fun t b hb=>⟨⟨hown t b (hdr t b hb).2,cy (h2 t) (hdr t b hb).2⟩,hnot t b hb⟩⟩,h7,h8,h9,Nat.le_trans h10 hkept.size,h11,fun b o v hb hU=> ?_,fun t b hb hU=> ?_,fun b hU=> ?_⟩
  ·show iC _ _ _ _ _ t (bif cY t ps then .none else S.σ t)
   cases hm:cY t ps with
   |true=>trivial
   |false=>
    refine du (Le.refl _ _ _) rfl (fun b hb=>hkept.mine b ⟨t2 b (cy (h2 t) hb) (hown t b hb),fun⟨p,hp,hpb⟩=> ?_⟩) (h2 t)
    rw[h3 t p b hb hpb]at hm
    rw[cu.2 hp]at hm;cases hm
  ·by_cases e:b<W.heap.size
   ·exact⟨t3 b e1 e (fun h=>e3 (.inl h)),fun hgb=>e3 (.inr (.inr hgb))⟩
   ·exact absurd (.inr (.inl ⟨by omega,e2⟩)) e3
  ·obtain⟨q1,q2,q3,q4,q5⟩:=t4 b hP
   have hg:¬G b:=fun⟨p,hp,hpb⟩=>q2 (hown p b hpb)
   exact⟨⟨q1,hg⟩,fun h=>q2 h.1.1,fun h=>by
    rcases h with h|⟨h,_⟩|h
    ·exact q3 h
    ·omega
    ·exact hg h,Nat.lt_of_lt_of_le q4 hkept.size,(hkept.mine b ⟨q1,hg⟩).trans q5⟩
  ·rcases hU with hU|⟨hU,_⟩|hU
   ·exact h12 b o v hb hU
   ·have:=hlt b o v hb;omega
   ·exact hnG b o v hb hU
  ·rcases hU with hU|⟨hU,_⟩|hU
   ·exact h13 t b (hdr t b hb).2 hU
   ·have:=cy (h2 t) (hdr t b hb).2;omega
   ·exact hnot t b hb hU
  ·rcases hU with hU|⟨_,hU⟩|⟨p,hp,hpb⟩
   ·exact Nat.lt_of_lt_of_le (h14 b hU) hkept.size
   ·exact hU
   ·exact Nat.lt_of_lt_of_le (cy (h2 p) hpb) hkept.size
 have dfr:∀s',sR (E.X (k+1) s' U').nd (E.X (k+1) s' U').w0.heap.size a W' :=fun s' =>by
  obtain⟨Ds,e1,e2,e3,e4⟩:=hs.defers
  have:Ds=[]:=e4 rfl
  subst this
  exact .nil (by simpa using e1)
 rcases hor with⟨rfl,hJ⟩|⟨rfl,hJ⟩
 ·show K (a.put o.dst (.bool true)) W'
  rw[hd]
  have h1:dh (E.X (k+1) false U') κ' sv (S.drop ps) a W' :=⟨hs.size,dfr false,hs.slot,goon false hJ⟩
  exact hK _ _ (hT U' κ' sv _ W' (h1.put (some d) (.bool true)))
 ·show K (a.put o.dst (.bool false)) W'
  rw[hd]
  have h1:dh (E.X (k+1) true U') κ' sv (S.drop ps) a W' :=⟨hs.size,dfr true,hs.slot,goon true hJ⟩
  exact hK _ _ (hF U' κ' sv _ W' (h1.put (some d) (.bool false)))
end
theorem yL{Z:Seat}{f:FuncId}{fn:Func}{c:Code}{cap:List D}{n:Nat}{its:Nat→List D}(hf:Z.P.funcs[f]? =some fn)(hb:fn.body=some c)(hname:(fn.name== "runtime.NumGoroutine")=false)(hn:Nat.ble (cap.length+1) fn.ntmps=true)(hA:af cap)(hI:∀k,k<n→af (its k))(hres:fn.results= #[])
 (h:∀E:Env,E.Z=Z→E.nt=fn.ntmps→E.n=n→E.its=its→WI E c (fun k s e _=>(e= .normal∨e= .ret)∧(s=false→k=n)∧k≤n) 0 false (St.init (.yl E.l::cap))):Og Z f cap n its:=by
 refine⟨⟨fn,c,hf,hb,hname⟩,hI,hA,fun w κ lb hκ hglob hrep l J Jx hJ hJx hY h0=> ?_⟩
 refine callsIn_of_wp_marks hf hb trivial ?_ rfl
 have hlen:cap.length+1≤fn.ntmps:=Nat.le_of_ble_eq_true hn
 have hal:=hrep.length
 let E:Env:=⟨Z,fn.ntmps,w,κ,l,n,its,J,Jx,w,κ,fun _=>False,fun _=>0,fun _=>Go.undef,fun _=>False,Nat.le_refl _,fun _ h=>h.elim,fun _ _ _ h=>h,fun _ _ _ _ h=>h,hJ,hJx,hY⟩
 have hrep' :RepL κ tn m9 (.yl l::cap) (Value.func (.yield l) #[] #[]::lb):= .cons _ _ _ _ (.yl _) hrep
 have hsim:dh (E.X 0 false fun _=>False) κ m9 (St.init (.yl l::cap)) {tmps:=(Value.func (.yield l) #[] #[]::lb).toArray++Array.replicate (fn.ntmps-(Value.func (.yield l) #[] #[]::lb).toArray.size) Go.undef,defers:=[]} w:=by
  refine⟨by simp[Env.X,E];omega,sR.nil rfl,fun i _=>gX hrep' _ i, ?_⟩
  exact⟨hκ,fun _=>trivial,(fun s t b hs=>by cases hs),(fun s b o hs=>by cases hs),(fun s b hs=>by cases hs),⟨fun _=>False,⟨fun _=>False,h0,fun _ _ h=>h,fun b h1 h2 _=>(by have h1:w.heap.size≤b:=h1;omega),fun b h=>h.elim⟩,fun s b hs=>by cases hs⟩,hglob,fun b o v _ hk=>hk,(fun b hb=>by cases hb),Nat.le_refl _,
   ⟨fun _ _ _ h=>h,fun _=>Nat.zero_le _,fun _ _=>rfl⟩,fun _ _ _ _ h=>h,fun _ _ _ h=>h,fun _ h=>h.elim⟩
 refine wpIn_mono (h E rfl rfl rfl rfl _ κ m9 _ w hsim) ?_
 rintro e a' W' ⟨k,s,U,κ',sv',S',hs,he,hk,hk2⟩
 obtain⟨Ds,e1,_,_,e4⟩:=hs.defers
 have:Ds=[]:=e4 rfl
 subst this
 have hd:a'.defers=[]:=by simpa using e1
 obtain⟨M,⟨T,t1,_⟩,_⟩:=hs.wld.frame
 have fin:LeavesInM Fence.wide 0 Z.P fn a'.tmps (fun e W' =>(∃v,e= .returned v)∧((∃T,J T n W')∨(∃T k,k≤n∧Jx T k W'))) a'.defers .returning W' :=by
  rw[hd]
  refine⟨.tuple #[],by simp[results,hres],⟨_,rfl⟩, ?_⟩
  cases s with
  |false=>rw[←hk rfl];exact .inl ⟨T,t1⟩
  |true=>exact .inr ⟨T,k,hk2,t1⟩
 rcases he with rfl|rfl<;>exact fin
section
variable {E:Env} {Q:Nat→Bool→Exit→St→Prop} {k:Nat} {s:Bool} {S:St}
theorem Es{id:Nat}{ops:Array Oper}{b:Bool}(h:∀U,W (E.X k s U) (.region id ops b) (Q k s) S):WI E (.region id ops b) Q k s S:=Mf h
theorem IM{c:Operand}{x y:Code}(h:∀U,W (E.X k s U) (.cond c x y) (Q k s) S):WI E (.cond c x y) Q k s S:=Mf h
theorem yX{y:Code}(h:WI E y Q k s S):fQ E y Q k s .normal S:=h
theorem Gq{y:Code}{i:Nat}(h:Q k s (.exit i) S):fQ E y Q k s (.exit i) S:=h
theorem yJ{id:Nat}(h:Q k s .normal S):eC id Q k s .normal S:=h
theorem wW{id:Nat}(h:Q k s .normal S):eC id Q k s (.exit id) S:=by
 show(bif Nat.beq id id then Q k s .normal S else Q k s (.exit id) S)
 rw[Nat.beq_refl];exact h
theorem GS{ops:Array Oper}{l:List Oper}(n:Nat)(h1:∀U,WL (E.X k s U) ops (l.take n) (fun e S' =>e= .normal∧pM E ops (l.drop n) Q k s S') S):pM E ops l Q k s S:=by
 have:=Ch (l.take n) (l.drop n) h1
 rwa[List.take_append_drop]at this
theorem LC(h:Q k s .normal S):WI E .skip Q k s S:=fun U κ sv _ _ hs=>wpIn_skip ⟨k,s,U,κ,sv,S,hs,h⟩
theorem Kt{id:Nat}(h:Q k s (.exit id) S):WI E (.exit id) Q k s S:=fun U κ sv _ _ hs=>wpIn_exit ⟨k,s,U,κ,sv,S,hs,h⟩
theorem MO(h:Q k s .ret S):WI E .ret Q k s S:=fun U κ sv _ _ hs=>wpIn_ret ⟨k,s,U,κ,sv,S,hs,h⟩
theorem HQ{c:Code}{α:Type}(kr kp:List Nat)(ki:α→Nat×Bool)(rs:α→List (Nat×D))(gs:α→List (Nat×Nat))(os:α→List (Nat×Own))(inv:α→Prop)(μ:α→Nat)(x0:α)(h0:inv x0)(hk:ki x0=(k,s))(hs:fJ S.ρ (rs x0)∧fJ S.γ (gs x0)∧fJ S.σ (os x0))
 (round:∀x h,inv x→WI E c (fun k' s' e S' =>match e with| .normal=>∃x',inv x'∧μ x' <μ x∧ki x' =(k',s')∧∀U,wG (E.X k' s' U) S S' kr kp (rs x') (gs x') (os x')|e=>Q k' s' e S') (ki x).1 (ki x).2 (Qg S kr kp (rs x) (gs x) (os x) h)):WI E (.loop c) Q k s S:=by
 refine Gn (α:=α×(Nat→Nat)) (fun x=>((ki x.1).1,(ki x.1).2,Qg S kr kp (rs x.1) (gs x.1) (os x.1) x.2)) (fun x=>inv x.1) (fun x=>μ x.1) (x0,S.γ) h0
  ⟨by rw[hk],by rw[hk],fun U=>zN ⟨cG hs.1 (ra S kr),cG hs.2.1 (oO S kp),cG hs.2.2 (oZ S kp)⟩⟩ (fun x hi=> ?_)
 intro U κ sv a W hsim
 refine wpIn_mono (round x.1 x.2 hi U κ sv a W hsim) ?_
 rintro e a' W' ⟨k',s',U',κ',sv',S',h1,h2⟩
 cases e with
 |normal=>
  obtain⟨x',i1,i2,i3,i4⟩:=h2
  obtain⟨S'',w1,w2⟩:=i4 U'
  obtain⟨κ2,sv2,h3⟩:=w1 κ' sv' a' W' h1
  exact⟨k',s',U',κ2,sv2,S'',h3,(x',S''.γ),i1,i2,by rw[i3],by rw[i3],fun U2=>zN (np w2)⟩
 |_=>exact⟨k',s',U',κ',sv',S',h1,h2⟩
end
section
variable {X:Ctx} {S:St}
theorem Np{S' :St}{kp:List Nat}{gs:List (Nat×Nat)}{os:List (Nat×Own)}{Qx:Code→St→Prop}(h:fJ S'.γ gs∧fJ S'.σ os∧zm S S' kp):Mu X S kp gs os Qx .normal S' :=⟨S',Wk.refl _ _,h.1,h.2.1,h.2.2⟩
theorem PZ{o:Oper}{x:Operand}(ho:o.op= .assign x)(hd:S.ev X x= .undef):eu X o S .undef:=gE ho hd
theorem OH{rs:List ResultVar}{t:Nat}{f:FuncId}{c c' :List D}(hr:rs=[.tmp t])(h:S.ev X (.tmp t)= .fn f c)(e:c=c'):gR X rs (.fn f c') .ret S:=⟨[.fn f c],by rw[hr];exact⟨h,trivial⟩,by rw[e];rfl⟩
theorem HP{o:Oper}{x:Operand}{l:Nat}(ho:o.op= .move x)(hd:S.ev X x= .yl l):eu X o S (.yl l):=lC ho hd
theorem qp(i j:Nat){s g o:Nat}{f:FuncId}{c c' l:List D}(hX:X.ext=none∧∀b,¬X.ex b)(h:S.ρ i= .fn f c)(hj:nth c j=some (.bx s g o))(hg:S.γ s=g)(hσ:S.σ s= .box l)(hc' :fO c j [.rp l o]=some c'):
 Wk X S ⟨bM S.ρ i (.fn f c'),S.γ,bM S.σ s .none⟩:=fun κ sv a w hs=>by
 have hle:=lX hs.wld s
 obtain⟨rfl,hlen⟩:=iH hc'
 have hnew:∀b,cw (S.σ s) (sv s)=some b→X.w0.heap.size≤b:=fun b hb=>(hs.wld.frsh s b hb).resolve_right (fun h=>h.elim (fun h=>by rw[hX.1]at h;cases h) (hX.2 b))
 refine⟨_,sv,⟨hs.size,hs.defers,fun k hk=> ?_,hs.wld.freeze s hnew _⟩⟩
 by_cases e:k=i
 ·subst e
  simp only[aj]
  have h1:=hs.slot k hk
  rw[h]at h1
  generalize a.tmps.getD k Go.undef=v at h1
  cases h1 with
  |fn _ _ vs hl=>
   rw[dX]at hj
   obtain⟨vj,hvj,hrj⟩:=hl.get hj
   have hjl:j<vs.length:=(List.getElem?_eq_some_iff.1 hvj).1
   have hvs:vs=vs.take j++[vj]++vs.drop (j+1):=by
    have h3:vs[j]=vj:=by simpa[List.getElem?_eq_getElem hjl]using hvj
    rw[←h3,List.append_assoc,List.singleton_append,List.getElem_cons_drop,List.take_append_drop]
   rw[hvs]
   refine .fn _ _ _ ((((hl.take j).mono hle).append (.cons _ _ _ _ ?_ .nil)).append ((hl.drop _).mono hle))
   have hown:=hs.wld.own s
   rw[hσ]at hown
   obtain⟨b,T,cs,e1,e2,e3,e4⟩:=hown
   cases hrj with
   |bx _ _ _ _ _ hh _=>
    obtain⟨b',h5,h6⟩:=hh hg.symm
    rw[e1]at h5
    simp only[Value.pointer.injEq,Option.some.injEq,Addr.mk.injEq,and_true]at h5
    subst h5
    rw[h6]
    have:=cX.rp (κ:=fun b o=>if cw (S.σ s) (sv s)=some b then w.cell? ⟨b,o,none⟩else κ b o) (γ:=S.γ) (sv:=sv) l o b 0 cs e4 (e3.mono hle) (fun j v hj=>by
     have hb:cw (S.σ s) (sv s)=some b:=by rw[hσ,e1];rfl
     simp only[hb,if_true]
     rw[cell_of_row w b _ _ _ _ e2,Nat.zero_add];simpa using hj)
    simpa using this
 ·simp only[bg _ _ _ _ e];exact(hs.slot k hk).mono hle
end
end Go.Ab
namespace Go.Ab
open Go Go.RowKit
section
variable {X:Ctx} {Q:Exit→St→Prop} {S T S0:St} {ops:Array Oper} {o:Oper} {rest:List Oper} {E:List Ent} {V:List Vl}
theorem sX{P:Program}{f:FuncId}(h:fN P f){a:Act}{w:World}{x:Operand}{xs:Array Operand}{ts:Array TypeId}{lb:List Value}(ho:o.op= .call {callee:= .value x,args:=xs,argTypes:=ts})(hx:a.eval x= .func (.func f) #[] lb.toArray):
 (execOp a.eval o).run P w= .ok (.enter f (xs.toList.map a.eval++lb).toArray) w:=by
 obtain⟨fn,c,h1,h2,h3⟩:=h
 have h4:execOp a.eval o=callFunc f (#[]++xs.map a.eval++lb.toArray):=by
  unfold execOp;rw[ho];simp[resolve,Deferred.ofValue,hx,invoke]
 rw[h4]
 have h5:(#[]++xs.map a.eval++lb.toArray)=(xs.toList.map a.eval++lb).toArray:=by simp[←Array.toList_map]
 rw[h5]
 have h6:¬fn.name= "runtime.NumGoroutine" :=by simpa using h3
 simp[callFunc,h1,h2,h6]
theorem J1{κ:Nat→Nat→Option Value}{sv:Nat→Value}{a:Act}{w:World}(hs:dh X κ sv S a w){x:Operand}{f:FuncId}{c:List D}(h:S.ev X x= .fn f c):∃lb:List Value,a.eval x= .func (.func f) #[] lb.toArray∧RepL κ S.γ sv c lb:=by
 have h1:=hs.ev x
 rw[h]at h1
 generalize a.eval x=v at h1
 cases h1 with
 |fn _ _ vs hl=>exact⟨vs,rfl,hl⟩
theorem qK{κ:Nat→Nat→Option Value}{sv:Nat→Value}{a:Act}{w:World}(hs:dh X κ sv S a w){f:FuncId}{L A:List D}{vs:List Value}{R:D}{v0:Value}(hc:au X.Z f A R)(hr:RepL κ S.γ sv L vs)(hA:je S L A)(hR:sn R=some v0):
 Calls X.Z.P f vs.toArray w fun e w'' =>e= .returned v0∧Below w.heap.size w w'' :=by
 let κ' :Nat→Nat→Option Value:=fun b o=>w.cell? ⟨b,o,none⟩
 have hle:Le κ κ' S.γ S.γ sv sv:=⟨fun b o v hk=>hs.wld.imm b o v hk,fun _=>Nat.le_refl _,fun _ _=>rfl⟩
 have hr2:=hA.rep hs.wld hle (fun b o v h=>h) hr
 refine(hc.calls w κ' _ (fun b o v h=>h) (fun g l hg=> ?_) (hr2.pure (fun _ _ _ h=>h) hc.pureA)).mono ?_
 ·obtain⟨h1,u,h2,h3⟩:=dh.fV hs.wld g l hg
  exact⟨h1,u,h2.mono ⟨fun b o v hk=>hs.wld.imm b o v hk,fun _=>Nat.le_refl _,fun _ _=>rfl⟩,fun j v hj=>hs.wld.imm _ _ _ (h3 j v hj)⟩
 ·rintro e w'' ⟨v,rfl,hv,hb2⟩
  rw[Gk hR hv]
  exact⟨rfl,hb2⟩
theorem H6{x:Operand}{f:FuncId}{c:List D}{xs:Array Operand}{ts:Array TypeId}{A:List D}{R:D}{v0:Value}(hg:o.guard=none)(ho:o.op= .call {callee:= .value x,args:=xs,argTypes:=ts})(hx:S.ev X x= .fn f c)(hc:au X.Z f A R)(hA:je S (xs.toList.map (S.ev X)++c) A)(hR:sn R=some v0)
 {t:Nat}(hd:o.dst=some t)(hk:WL X ops rest Q (S.set t R)):WL X ops (o::rest) Q S:=fun κ sv a w hs=>by
 obtain⟨lb,h1,h2⟩:=J1 hs hx
 refine wpListIn_plain hg fun K hK=>eW (sX hc.body ho h1) (qK hs hc ((en hs xs.toList).append h2) hA hR) ?_
 rintro e w' ⟨rfl,hb⟩
 refine⟨v0,rfl, ?_⟩
 rw[hd]
 exact hK _ _ (hk κ sv _ w' ((hs.later hb).put (some t) (oq hR)))
theorem Mx{x:Ab.Own}{E z n:Nat}{f f' :Nat→List D}(h:x= .arr E z n f)(e:∀i,f i=f' i):x= .arr E z n f' :=by rw[h,show f=f' from funext e]
end
section
variable {X:Ctx} {Q:Exit→St→Prop} {S T S0:St} {ops:Array Oper} {o:Oper} {rest:List Oper} {E:List Ent} {V:List Vl} {x y:Operand}
theorem pO{cs:Array Operand}{f:FuncId}(ho:o.op= .makeFunc (.func f) cs #[]):eu X o S (.mf f (cs.toList.map (S.ev X))):=fun κ sv a w hs=>by
 refine⟨.func (.func f) (cs.map a.eval) #[], ?_,fun w' _=>by simp[execOp,ho,Instr.makeFunc]⟩
 have:=cX.mf (κ:=κ) (γ:=S.γ) (sv:=sv) f _ _ (en hs cs.toList)
 have e:(cs.toList.map a.eval).toArray=cs.map a.eval:=by simp[←Array.toList_map]
 rwa[e]at this
theorem b7{cs:Array Operand}{f:FuncId}(ho:o.op= .makeFunc (.func f) cs #[]):FQ X o S (.mf f (cs.toList.map (S.ev X))):=fun h=>by
 have h1:cs.toList.map (S.ev X)=cs.toList.map ((lW S (mV X S o) h).ev X):=List.map_congr_left fun x hx=>(vk (by rw[ho];simp[Op.operands];simpa using hx)).symm
 rw[h1];exact pO ho
theorem iI{f:FuncId}{l:List D}(ho:o.op= .move x)(hd:S.ev X x= .mf f l):eu X o S (.mf f l):=lC ho hd
theorem iF{f:FuncId}{l:List D}(ho:o.op= .assign x)(hd:S.ev X x= .mf f l):eu X o S (.mf f l):=gE ho hd
theorem yo{P:Program}{f:FuncId}(h:fN P f){a:Act}{w:World}{xs:Array Operand}{ts:Array TypeId}{lb:List Value}(ho:o.op= .call {callee:= .value x,args:=xs,argTypes:=ts})(hx:a.eval x= .func (.func f) lb.toArray #[]):
 (execOp a.eval o).run P w= .ok (.enter f (lb++xs.toList.map a.eval).toArray) w:=by
 obtain⟨fn,c,h1,h2,h3⟩:=h
 have h4:execOp a.eval o=callFunc f (lb.toArray++xs.map a.eval++ #[]):=by
  unfold execOp;rw[ho];simp[resolve,Deferred.ofValue,hx,invoke]
 rw[h4]
 have h5:(lb.toArray++xs.map a.eval++ #[])=(lb++xs.toList.map a.eval).toArray:=by simp[←Array.toList_map]
 rw[h5]
 have h6:¬fn.name= "runtime.NumGoroutine" :=by simpa using h3
 simp[callFunc,h1,h2,h6]
theorem MC{κ:Nat→Nat→Option Value}{sv:Nat→Value}{a:Act}{w:World}(hs:dh X κ sv S a w){f:FuncId}{c:List D}(h:S.ev X x= .mf f c):∃lb:List Value,a.eval x= .func (.func f) lb.toArray #[]∧RepL κ S.γ sv c lb:=by
 have h1:=hs.ev x
 rw[h]at h1
 generalize a.eval x=v at h1
 cases h1 with
 |mf _ _ vs hl=>exact⟨vs,rfl,hl⟩
theorem sk{f:FuncId}{c:List D}{xs:Array Operand}{ts:Array TypeId}{A:List D}{R:D}{v0:Value}{t:Nat}{gs:List Nat}(hw:Want X S ops o gs)(ho:o.op= .call {callee:= .value x,args:=xs,argTypes:=ts})(hd:o.dst=some t)(hx:S.ev X x= .mf f c)(hc:au X.Z f A R)(hA:je S (c++xs.toList.map (S.ev X)) A)(hR:sn R=some v0)
 (hk:WG X Q ops S0 (E++[(⟨gs++slotsOf (x::xs.toList),CG (c++xs.toList.map (S.ev X)),CG (c++xs.toList.map (S.ev X))⟩,⟨some t,none,none⟩)]) (V++[⟨R,0, .none⟩]) rest (S.set t R)):WG X Q ops S0 E V (o::rest) S:=by
 refine jo rfl (fun hoi T hT κ sv a w hs=> ?_) hk
 have hm:xs.toList.map (T.ev X)=xs.toList.map (S.ev X):=List.map_congr_left fun y hy=>gB fun t e=>by subst e;exact hT.rr t (List.mem_append_right _ (jb (List.mem_cons_of_mem _ hy)))
 have hxT:T.ev X x= .mf f c:=(gB fun t e=>by subst e;exact hT.rr t (List.mem_append_right _ (jb (List.mem_cons_self ..)))).trans hx
 have hA' :je T (c++xs.toList.map (T.ev X)) A:=by
  rw[hm]
  exact mc hA (fun s hs=>hT.rg s hs) (fun s hs=>hT.ro s hs)
 unfold wpOpIn
 rw[hoi]
 simp only
 rw[if_pos (pf hw (fun t ht=>hT.rr t (List.mem_append_left _ ht)) hs)]
 obtain⟨lb,h1,h2⟩:=MC hs hxT
 refine eW (yo hc.body ho h1) (qK hs hc (h2.append (en hs xs.toList)) hA' hR) ?_
 rintro e w' ⟨rfl,hb⟩
 refine⟨v0,rfl, ?_⟩
 rw[hd]
 exact⟨κ,sv,(hs.later hb).put (some t) (oq hR)⟩
theorem mJ{P:Program}{T:TypeId}{r:TRow}(hok:jE P T r=true)(hk:Nat.beq r.k 2=true):P.underlying T=some (.array r.ln r.el):=by
 obtain⟨i,d,_,hd,_,_,_,h4⟩:=cW hok
 have hk2:=Nat.eq_of_beq_eq_true hk
 cases d<;>try (simp only at h4;omega)
 obtain⟨_,h5,h6⟩:=h4
 rw[hd,h5,h6]
theorem cU{T:TypeId}{r q:TRow}{s g j:Nat}{k:Int}(ho:o.op= .indexAddr T x y)(hx:S.ev X x= .bx s g j)(hg:S.γ s=g)(hy:S.ev X y= .int .i64 k)(h0:0≤k)
 (hr:nth X.Z.dS T=some r)(hk:Nat.beq r.k 2=true)(h1:k<r.ln)(hq:nth X.Z.dS r.el=some q)(hq9:Nat.beq q.k 9=false):eu X o S (.bx s g (j+k.toNat*q.sz)):=fun κ sv a w hs=>by
 have hok:=X.Z.tabOk _ _ hr (by intro e;rw[e]at hk;cases hk)
 have hokq:=X.Z.tabOk _ _ hq (by intro e;rw[e]at hq9;cases hq9)
 have hyv:=lx (hy▸hs.ev y)
 obtain⟨b,e1,e2⟩:=Ar hs hx hg
 exact⟨.pointer (some ⟨b,j+k.toNat*q.sz,none⟩), .bx _ _ _ _ (by omega) (fun _=>⟨b,e1,rfl⟩) rfl,fun w' _=>by
  simp[execOp,ho,e2,hyv,Instr.indexAt,asIntOf,run_underlying (mJ hok hk),Instr.sureAddr,h0,h1,dR hokq,dQ]⟩
theorem mN{T:TypeId}{r q:TRow}{l m:List D}{k:Int}(ho:o.op= .index T x y)(hx:S.ev X x= .agg l)(hy:S.ev X y= .int .i64 k)(h0:0≤k)
 (hr:nth X.Z.dS T=some r)(hk:Nat.beq r.k 2=true)(h1:k<r.ln)(hq:nth X.Z.dS r.el=some q)(hqk:(Nat.beq q.k 1||Nat.beq q.k 2)=true)(hm:takeN q.sz (jy (k.toNat*q.sz) l)=some m):eu X o S (.agg m):=fun κ sv a w hs=>by
 have hok:=X.Z.tabOk _ _ hr (by intro e;rw[e]at hk;cases hk)
 have hokq:=X.Z.tabOk _ _ hq (by intro e;rw[e]at hqk;simp at hqk)
 have hyv:=lx (hy▸hs.ev y)
 obtain⟨vs,e1,hl⟩:=qB hs hx
 obtain⟨rfl,hlen⟩:=ku hm
 rw[kN]at hlen⊢
 obtain⟨iq,dq,hiq,hdq,hsq,_⟩:=cW hokq
 refine⟨.agg ((vs.drop (k.toNat*q.sz)).take q.sz).toArray, .agg _ _ ((hl.drop _).take _),fun w' _=> ?_⟩
 have hagg:(isAgg r.el).run X.Z.P w' = .ok true w' :=by rw[iW hdq,uU hokq,hqk]
 have hext:vs.toArray.extract (k.toNat*q.sz) (k.toNat*q.sz+q.sz)=((vs.drop (k.toNat*q.sz)).take q.sz).toArray:=by
  simp[List.extract_eq_drop_take]
 simp[execOp,ho,e1,hyv,Instr.index,asIntOf,run_underlying (mJ hok hk),h0,h1,dR hokq,part,hagg,hext]
end
end Go.Ab
namespace Go.Ab
open Go Go.RowKit
mutual
def kY(p g:Nat):D→D
 | .os _ _=> .os p g
 | .agg l=> .agg (vG p g l)
 |d=>d
def vG(p g:Nat):List D→List D
 |[]=>[]
 |d::l=>kY p g d::vG p g l
end
mutual
inductive PO:D→Prop
 |pure (d:D):Pure d→PO d
 |os (s g:Nat):PO (.os s g)
 |agg (l:List D):NM l→PO (.agg l)
inductive NM:List D→Prop
 |nil:NM []
 |cons (d:D) (l:List D):PO d→NM l→NM (d::l)
end
section
variable {κ κ' :Nat→Nat→Option Value} {γ γ' :Nat→Nat} {sv sv' :Nat→Value}
mutual
theorem rB(hκ:∀b o v,κ b o=some v→κ' b o=some v){p g p' g' :Nat}(hg:γ p=g)(hg' :γ' p' =g')(hv:sv' p' =sv p):∀{d:D} {v:Value},PO d→cX κ γ sv (kY p g d) v→cX κ' γ' sv' (kY p' g' d) v
 | .os s0 g0,v,_,hr=>by
   simp only[kY]at hr⊢
   cases hr with
   |os _ _ _ h1 h2 h3=>exact .os _ _ _ (Nat.le_of_eq hg'.symm) (fun _=>by rw[hv];exact h2 hg.symm) h3
 | .agg l,v,hp,hr=>by
   simp only[kY]at hr⊢
   cases hr with
   |agg _ vs hl=>exact .agg _ _ (CZ hκ hg hg' hv (by
     cases hp with
     |pure _ hp=>exact Il (by cases hp;assumption)
     |agg _ hp=>exact hp) hl)
 | .int k n,v,hp,hr=>by cases hr;exact .int _ _
 | .bool b,v,hp,hr=>by cases hr;exact .bool _
 | .str s,v,hp,hr=>by cases hr;exact .str _
 | .tup l,v,hp,hr=>by cases hp with|pure _ hp=>exact cX.pure hκ hr hp
 | .sl z n f,v,hp,hr=>by cases hp with|pure _ hp=>exact cX.pure hκ hr hp
 | .nil,v,hp,hr=>by cases hr;exact .nil
 | .rp l o,v,hp,hr=>by cases hp with|pure _ hp=>exact cX.pure hκ hr hp
 | .bx s g o,v,hp,hr=>by cases hp with|pure _ hp=>cases hp
 | .op s g z i o,v,hp,hr=>by cases hp with|pure _ hp=>cases hp
 | .ow s g z a m,v,hp,hr=>by cases hp with|pure _ hp=>cases hp
 | .fn f c,v,hp,hr=>by cases hp with|pure _ hp=>exact cX.pure hκ hr hp
 | .yl l,v,hp,hr=>by cases hr;exact .yl _
 | .mf f c,v,hp,hr=>by cases hp with|pure _ hp=>exact cX.pure hκ hr hp
 | .one,v,_,hr=>by cases hr;exact .one _ (by assumption)
 | .undef,v,_,_=> .undef v
theorem CZ(hκ:∀b o v,κ b o=some v→κ' b o=some v){p g p' g' :Nat}(hg:γ p=g)(hg' :γ' p' =g')(hv:sv' p' =sv p):∀{l:List D} {vs:List Value},NM l→RepL κ γ sv (vG p g l) vs→RepL κ' γ' sv' (vG p' g' l) vs
 |[],vs,_,hr=>by simp only[vG]at hr⊢;cases hr;exact .nil
 |d::l,vs,hp,hr=>by
  simp only[vG]at hr⊢
  cases hr with
  |cons _ v _ vs h1 h2=>
   cases hp with
   |cons _ _ p1 p2=>exact .cons _ _ _ _ (rB hκ hg hg' hv p1 h1) (CZ hκ hg hg' hv p2 h2)
theorem Il:∀{l:List D},(∀d∈l,Pure d)→NM l
 |[],_=> .nil
 |d::l,h=> .cons d l (.pure d (h d (List.mem_cons_self ..))) (Il fun x hx=>h x (List.mem_cons_of_mem _ hx))
end
end
structure fG (Z:Seat) (f:FuncId) (A:List D) (R:D) (E z n:Nat) (el:Nat→List D):Prop where
 pureA:af A
 poR:PO R
 pureE:∀i,i<n→af (el i)
 body:fN Z.P f
 calls:∀(w:World) (κ:Nat→Nat→Option Value) (args:List Value),Fits κ w→jM Z κ→RepL κ tn m9 A args→
  Calls Z.P f args.toArray w fun e w' =>∃v sl κ',e= .returned v∧cX κ' (fun _=>1) (fun _=>sl) (kY 0 1 R) v∧(∀b o u,κ b o=some u→κ' b o=some u)∧(∀b o u,b<w.heap.size→κ' b o=some u→κ b o=some u)∧
   (∀b o u,κ' b o=some u→w'.cell? ⟨b,o,none⟩=some u)∧sl.oneCell' =true∧iC w.heap.size κ' (fun _=>1) (fun _=>sl) w' 0 (.arr E z n el)∧(∀b,cw (.arr E z n el) sl=some b→∀o,κ' b o=none)∧Below w.heap.size w w'
def R1(X:Ctx)(rs:List ResultVar)(R:D)(E z n:Nat)(el:Nat→List D):Exit→St→Prop
 | .normal,S| .ret,S=>∃s g,S.γ s=g∧S.σ s= .arr E z n el∧∃ds,kV X S rs ds∧gu ds=kY s g R
 |_,_=>False
theorem ns{Z:Seat}{f:FuncId}{fn:Func}{c:Code}{A:List D}{R:D}{E z n:Nat}{el:Nat→List D}(hf:Z.P.funcs[f]? =some fn)(hb:fn.body=some c)(hname:(fn.name== "runtime.NumGoroutine")=false)(hn:Nat.ble A.length fn.ntmps=true)(hA:af A)(hR:PO R)(hE:∀i,i<n→af (el i))
 (h:∀w κ,W (Ctx.plain Z fn.ntmps w κ none) c (R1 (Ctx.plain Z fn.ntmps w κ none) fn.results.toList R E z n el) (St.init A)):fG Z f A R E z n el:=by
 refine⟨hA,hR,hE,⟨fn,c,hf,hb,hname⟩,fun w κ args hκ hglob hrep=> ?_⟩
 refine(callsIn_wide (n:=0)).1 (callsIn_of_wp_marks hf hb trivial ?_ rfl)
 have hlen:A.length≤fn.ntmps:=Nat.le_of_ble_eq_true hn
 have hal:=hrep.length
 have hsim:dh (Ctx.plain Z fn.ntmps w κ none) κ m9 (St.init A) {tmps:=args.toArray++Array.replicate (fn.ntmps-args.toArray.size) Go.undef,defers:=[]} w:=by
  refine⟨by simp[Ctx.plain];omega,sR.nil rfl,fun i _=>gX hrep _ i, ?_⟩
  exact⟨hκ,fun _=>trivial,(fun s t b hs=>by cases hs),(fun s b o hs=>by cases hs),(fun s b hs=>by cases hs),⟨fun _=>False,⟨Frame.refl _ _,fun _ h=>h.elim⟩,fun s b hs=>by cases hs⟩,hglob,fun b o v _ hk=>hk,(fun b hb=>by cases hb),Nat.le_refl _,⟨fun _ _ _ h=>(by cases h),fun _=>Nat.zero_le _,fun _ _=>rfl⟩,fun _ _ _ _ h=>h,fun _ _ _ h=>h,fun _ h=>h.elim⟩
 refine wpIn_mono (h w κ κ m9 _ w hsim) ?_
 rintro e a' w' ⟨κ',sv',S',hs,hq⟩
 cases e<;>first|exact hq.elim|skip
 all_goals
  obtain⟨s,g,hg,hσ,ds,hd,hren⟩:=hq
  obtain⟨Ds,d1,d2,d3,_⟩:=hs.defers
  show LeavesInM _ _ _ _ _ _ a'.defers _ _
  rw[d1]
  refine g5 rfl g6 hd (fun a w' v hs h2=> ?_) Ds a' w' hs d1 d2 d3
  rw[hren]at h2
  obtain⟨M,h1,_⟩:=hs.wld.frame
  have hown:=hs.wld.own s
  rw[hσ]at hown
  have hk:∀b o u,κ' b o=some u→(fun b o=>if b<w.heap.size then κ b o else κ' b o) b o=some u:=fun b o u hu=>by
   simp only
   split
   ·exact hs.wld.old b o u (by assumption) hu
   ·exact hu
  have hsl:(sv' s).oneCell' =true:=by
   obtain⟨xs,e1,_⟩:=hown
   rcases e1.2 with⟨hv,_⟩|⟨b,off,cap,cur,hv,_⟩<;>rw[hv]<;>rfl
  refine⟨v,sv' s,fun b o=>if b<w.heap.size then κ b o else κ' b o,rfl,rB (p:=s) (g:=g) (p' :=0) (g' :=1) (γ' :=fun _=>1) (sv' :=fun _=>sv' s) hk hg rfl rfl hR h2,fun b o u hu=> ?_,fun b o u hb hu=> ?_,fun b o u hu=> ?_,hsl, ?_,fun b hb o=> ?_,h1.1.below⟩
  ·have:b<w.heap.size:=by have:=World.block_lt_of_cell? w _ (hκ b o u hu);simpa using this
   simp only;rw[if_pos this];exact hu
  ·simp only at hu;rw[if_pos hb]at hu;exact hu
  ·simp only at hu
   split at hu
   ·rename_i hb
    have h3:=hκ b o u hu
    rw[h1.1.below.cell (by simpa using hb)];exact h3
   ·exact hs.wld.imm b o u hu
  ·obtain⟨xs,e1,e2,e3,e4⟩:=hown
   exact⟨xs,e1,e2,e3,fun i hi=>(e4 i hi).pure hk (hE i hi)⟩
  ·have hbk:cw (S'.σ s) (sv' s)=some b:=by rw[hσ];exact hb
   have h3:=hs.wld.frsh s b hbk
   have h4:w.heap.size≤b:=h3.resolve_right (fun h=>by rcases h with h|h<;>cases h)
   simp only;rw[if_neg (by omega)]
   exact hs.wld.sep s b o hbk
section
variable {X:Ctx} {κ κ' :Nat→Nat→Option Value} {sv:Nat→Value} {S:St} {w w' :World}
theorem cV.EW(h:cV X κ sv S w)(hb:Below w.heap.size w w')(k1:∀b o u,κ b o=some u→κ' b o=some u)(k2:∀b o u,b<w.heap.size→κ' b o=some u→κ b o=some u)(k3:∀b o u,κ' b o=some u→w'.cell? ⟨b,o,none⟩=some u)
 (p:Nat)(ow:Own)(sl:Value)(hnew:∀b,cw ow sl=some b→w.heap.size≤b∧b<w'.heap.size∧∀o,κ' b o=none)(ho:iC (X.base p) κ' (bM S.γ p (S.γ p+1)) (bM sv p sl) w' p ow)(ρ' :Nat→D):
 cV X κ' (bM sv p sl) ⟨ρ',bM S.γ p (S.γ p+1),bM S.σ p ow⟩ w' :=by
 have hle:Le κ κ' S.γ (bM S.γ p (S.γ p+1)) sv (bM sv p sl):=by
  obtain⟨a,b,c⟩:=dP κ S.γ sv p sl
  exact⟨k1,b,c⟩
 have hbk:∀t b,cw (bM S.σ p ow t) (bM sv p sl t)=some b→(t=p∧cw ow sl=some b)∨(t≠p∧cw (S.σ t) (sv t)=some b):=by
  intro t b hb
  by_cases e:t=p
  ·subst e;rw[aj,aj]at hb;exact .inl ⟨rfl,hb⟩
  ·rw[bg _ _ _ _ e,bg _ _ _ _ e]at hb;exact .inr ⟨e,hb⟩
 obtain⟨h1,h2,h3,h4,h5,⟨M,h6,h6'⟩,h7,h8,h9,h10,h11,h12,h13,h14⟩:=h
 refine⟨k3,fun t=> ?_,fun t u b ht hu=> ?_,fun t b o ht=> ?_,fun t b ht=> ?_,⟨_,X.cl M w w' h6 ⟨hb.os,hb.tape,hb.output,hb.size,fun k hk _=>hb.block k hk⟩,fun t b ht=> ?_⟩,fun g l hgl=> ?_,fun b o v hlt hk=> ?_,fun b hb' => ?_,Nat.le_trans h10 hb.size,h11.trans hle,fun b o v hk hT=> ?_,fun t b ht hT=> ?_,fun b hT=>Nat.lt_of_lt_of_le (h14 b hT) hb.size⟩
 ·by_cases e:t=p
  ·subst e;simp only[aj];exact ho
  ·simp only[bg _ _ _ _ e]
   exact du hle (bg _ _ _ _ e) (fun b hb' =>hb.block b (cy (h2 t) hb')) (h2 t)
 ·simp only at ht hu
  rcases hbk t b ht with⟨rfl,a1⟩|⟨e1,a1⟩<;>rcases hbk u b hu with⟨rfl,a2⟩|⟨e2,a2⟩
  ·rfl
  ·have:=cy (h2 u) a2;have:=(hnew b a1).1;omega
  ·have:=cy (h2 t) a1;have:=(hnew b a2).1;omega
  ·exact h3 t u b a1 a2
 ·simp only at ht
  rcases hbk t b ht with⟨rfl,a1⟩|⟨e1,a1⟩
  ·exact(hnew b a1).2.2 o
  ·cases hk:κ' b o with
   |none=>rfl
   |some v=>have h20:=k2 b o v (cy (h2 t) a1) hk;rw[h4 t b o a1]at h20;cases h20
 ·simp only at ht
  rcases hbk t b ht with⟨rfl,a1⟩|⟨e1,a1⟩
  ·exact .inl (Nat.le_trans h10 (hnew b a1).1)
  ·exact h5 t b a1
 ·simp only at ht
  rcases hbk t b ht with⟨rfl,a1⟩|⟨e1,a1⟩
  ·exact .inr (hnew b a1).1
  ·exact .inl (h6' t b a1)
 ·obtain⟨hc,u,hu,hk⟩:=h7 g l hgl
  exact⟨hc,u,hu.mono hle,fun j v hj=>k1 _ _ _ (hk j v hj)⟩
 ·exact h8 b o v hlt (k2 b o v (Nat.lt_of_lt_of_le hlt h10) hk)
 ·obtain⟨e1,e2⟩:=h9 b hb'
  by_cases e:0=p
  ·subst e;simp only[aj];exact⟨by omega,fun e=>by omega⟩
  ·simp only[bg _ _ _ _ e];exact⟨e1,e2⟩
 ·by_cases e:b<w.heap.size
  ·exact h12 b o v (k2 b o v e hk) hT
  ·have:=h14 b hT;omega
 ·simp only at ht
  rcases hbk t b ht with⟨rfl,a1⟩|⟨e1,a1⟩
  ·have:=h14 b hT;have:=(hnew b a1).1;omega
  ·exact h13 t b a1 hT
end
section
variable {X:Ctx} {Q:Exit→St→Prop} {S:St} {ops:Array Oper} {o:Oper} {rest:List Oper}
theorem JO(p:Nat){f:FuncId}{xs:Array Operand}{ts:Array TypeId}{A:List D}{R:D}{E z n:Nat}{el:Nat→List D}(hg:o.guard=none)(ho:o.op= .call {callee:= .value (.func f),args:=xs,argTypes:=ts})(hc:fG X.Z f A R E z n el)(hA:xs.toList.map (S.ev X)=A)
 {t:Nat}(hd:o.dst=some t){R' :D}(hR:kY p (S.γ p+1) R=R')(hk:WL X ops rest Q ⟨bM S.ρ t R',bM S.γ p (S.γ p+1),bM S.σ p (.arr E z n el)⟩):WL X ops (o::rest) Q S:=fun κ sv a w hs=>by
 subst hR
 have hr:=en hs xs.toList
 rw[hA]at hr
 refine wpListIn_plain hg fun K hK=>eW (fr hc.body ho) (hc.calls w κ _ (dh.fits hs.wld) (dh.fV hs.wld) (hr.pure (fun _ _ _ h=>h) hc.pureA)) ?_
 rintro e w' ⟨v,sl,κ',rfl,hv,k1,k2,k3,hsl,hown,hsep,hb⟩
 refine⟨v,rfl, ?_⟩
 rw[hd]
 have hle:Le κ κ' S.γ (bM S.γ p (S.γ p+1)) sv (bM sv p sl):=by
  obtain⟨a,b,c⟩:=dP κ S.γ sv p sl
  exact⟨k1,b,c⟩
 have hW:=hs.wld.EW hb k1 k2 k3 p (.arr E z n el) sl (fun b hbk=>by
  obtain⟨xs,e1,_⟩:=hown
  rcases e1.2 with⟨hv,_⟩|⟨b',off,cap,cur,hv,hbase,hh,_⟩
  ·simp only at hv;rw[hv]at hbk;cases hbk
  ·simp only at hv
   rw[hv]at hbk;simp only[cw,Option.some.injEq]at hbk;subst hbk
   exact⟨hbase,(Array.getElem?_eq_some_iff.1 hh).1,hsep b' (by rw[hv];rfl)⟩) (by
  obtain⟨xs,e1,e2,e3,e4⟩:=hown
  exact⟨xs,by rw[aj];exact jh e1 (hs.wld.mO _),e2,e3,fun i hi=>(e4 i hi).pure (fun _ _ _ h=>h) (hc.pureE i hi)⟩) S.ρ
 have hs' :dh X κ' (bM sv p sl) ⟨S.ρ,bM S.γ p (S.γ p+1),bM S.σ p (.arr E z n el)⟩ a w' :=⟨hs.size,hs.defers.later hb,fun i hi=>(hs.slot i hi).mono hle,hW⟩
 exact hK _ _ (hk κ' _ _ w' (hs'.put (some t) (rB (p:=0) (g:=1) (fun _ _ _ h=>h) rfl (aj _ _ _) (aj _ _ _) hc.poR hv)))
end
section
variable {X:Ctx} {S:St}
theorem zY(s:Nat){E z n:Nat}{f:Nat→List D}(f' :Nat→List D)(hσ:S.σ s= .arr E z n f)(h:∀i,i<n→vA (f i) (f' i)):Wk X S ⟨S.ρ,S.γ,bM S.σ s (.arr E z n f')⟩:=fun κ sv a w hs=>by
 have hown:=hs.wld.own s
 rw[hσ]at hown
 obtain⟨xs,e1,e2,e3,e4⟩:=hown
 have nl:∀{l l' :List D},vA l l'→l'.length=l.length:=by
  intro l
  induction l with
  |nil=>intro l' h;cases l' <;>first|rfl|exact h.elim
  |cons d l ih=>intro l' h;cases l' with
   |nil=>exact h.elim
   |cons d' l' =>simp[ih h.2]
 refine⟨κ,sv,⟨hs.size,hs.defers,hs.slot, ?_⟩⟩
 refine hs.wld.rewrite s (.arr E z n f') (bN (Below.refl _ _) _) (by
  rw[hσ]
  cases sv s with
  |pointer a=>cases a<;>rfl
  |slice a=>cases a<;>rfl
  |map a=>cases a<;>rfl
  |_=>rfl) ⟨xs,e1,fun i hi=>by rw[nl (h i hi)];exact e2 i hi,fun i hi=>pt (h i hi) (e3 i hi),fun i hi=>fp (h i hi) (e4 i hi)⟩ _
theorem Rc{o:Oper}{S1 S2:St}(h:kX X o S S1)(hw:Wk X S1 S2):kX X o S S2:=fun κ sv a w hs=>by
 obtain⟨v,w',κ',sv',h1,h2⟩:=h κ sv a w hs
 obtain⟨κ2,sv2,h3⟩:=hw κ' sv' _ w' h2
 exact⟨v,w',κ2,sv2,h1,h3⟩
theorem Oo(t:Nat){z n:Nat}{f:Nat→List D}(f' :Nat→List D)(h:S.ρ t= .sl z n f)(hf:∀i,i<n→f i=f' i):Wk X S (S.set t (.sl z n f')):=fun κ sv a w hs=>by
 refine⟨κ,sv,⟨hs.size,hs.defers,fun i hi=> ?_,hs.wld.oM rfl rfl⟩⟩
 by_cases e:i=t
 ·subst e
  simp only[St.set,aj]
  have h1:=hs.slot i hi
  rw[h]at h1
  generalize a.tmps.getD i Go.undef=v at h1
  cases h1 with
  |sl _ _ _ b off cap u h1 h2 h5 h3 h4=>exact .sl z n f' b off cap u h1 (fun i hi=>by rw[←hf i hi];exact h2 i hi) (fun i hi=>by rw[←hf i hi];exact h5 i hi) (fun i hi=>by rw[←hf i hi];exact h3 i hi) h4
  |sl0=>exact .sl0 _ _
  |slE=>exact .slE _ _ _ _
 ·simp only[St.set,bg _ _ _ _ e];exact hs.slot i hi
theorem yI:∀l:List D,vA l l
 |[]=>trivial
 |_::l=>⟨.inl rfl,yI l⟩
end
section
variable {X:Ctx} {Q:Exit→St→Prop} {S S0:St} {ops:Array Oper} {o:Oper} {rest:List Oper} {E:List Ent} {V:List Vl}
theorem Pk{j t:Nat}{b:Bool}{m:Int}(hg:o.guard=some (j,b))(hj:(ops[j]?).bind (·.dst)=some t)(hc:S.ev X (.tmp t)= .bool (m==m))(ht:WG X Q ops S0 E V (o::rest) (S.set t (.bool true))):WG X Q ops S0 E V (o::rest) S:=
 Fk hg hj hc (fun _=>ht) (fun h=>by simp at h)
end
end Go.Ab
namespace Go.Ab
open Go Go.RowKit
section
variable {X:Ctx} {o:Oper} {S:St} {x y:Operand}
theorem fT{T:TypeId}{r q:TRow}{l:List D}{j:Nat}{k:Int}(ho:o.op= .indexAddr T x y)(hx:S.ev X x= .rp l j)(hy:S.ev X y= .int .i64 k)(h0:0≤k)
 (hr:nth X.Z.dS T=some r)(hk:Nat.beq r.k 2=true)(h1:k<r.ln)(hq:nth X.Z.dS r.el=some q)(hq9:Nat.beq q.k 9=false):eu X o S (.rp l (j+k.toNat*q.sz)):=fun κ sv a w hs=>by
 have hok:=X.Z.tabOk _ _ hr (by intro e;rw[e]at hk;cases hk)
 have hokq:=X.Z.tabOk _ _ hq (by intro e;rw[e]at hq9;cases hq9)
 have hyv:=lx (hy▸hs.ev y)
 have h1' :=hs.ev x
 rw[hx]at h1'
 generalize he:a.eval x=v at h1'
 cases h1' with
 |rp _ _ b bo u hc hu hκ=>
  refine⟨.pointer (some ⟨b,bo+(j+k.toNat*q.sz),none⟩), .rp l _ b bo u hc hu hκ,fun w' _=> ?_⟩
  simp[execOp,ho,he,hyv,Instr.indexAt,asIntOf,run_underlying (mJ hok hk),Instr.sureAddr,h0,h1,dR hokq,dQ,Nat.add_assoc]
end
end Go.Ab
namespace Go.Ab
open Go Go.RowKit
section
variable {X:Ctx} {Q:Exit→St→Prop} {S T0:St} {ops:Array Oper} {o:Oper} {rest:List Oper} {S0:St} {E:List Ent} {V:List Vl}
end
end Go.Ab
namespace Go.Ab
open Go Go.RowKit
theorem Bb{E z n E' z' n' :Nat}{f f' :Nat→List D}(v:Value):cw (.arr E z n f) v=cw (.arr E' z' n' f') v:=by
 cases v with
 |pointer a=>cases a<;>rfl
 |slice a _ _=>cases a<;>rfl
 |map a=>cases a<;>rfl
 |_=>rfl
def Oc(v:Option Value)(i d:Nat):Prop:=(v=none∧i=d)∨v=some (.int .i64 i)
theorem oz{P:Program}{w:World}{T e:TypeId}{q:TRow}(hu:P.underlying T=some (.slice e))(hq:jE P e q=true){a:Option Addr}{len cap:Nat}{lo hi:Option Value}{i j:Nat}
 (hlo:Oc lo i 0)(hhi:Oc hi j len)(hij:i≤j)(hjc:j≤cap):
 (Instr.sliceAt T (.slice a len cap) lo hi none).run P w= .ok (.slice (if cap=i then a else a.map (·.add (i*q.sz))) (j-i) (cap-i)) w:=by
 rcases hlo with⟨rfl,rfl⟩|rfl<;>rcases hhi with⟨rfl,rfl⟩|rfl<;>
  simp[Instr.sliceAt,Instr.slice,Instr.sliceBounds,Instr.sliceBound,asIntOf,run_underlying hu,dR hq,hij,hjc]
section
variable {X:Ctx} {o:Oper} {S:St} {x:Operand}
def x5(X:Ctx)(S:St)(v:Option Operand)(i d:Nat):Prop:=(v=none∧i=d)∨∃y,v=some y∧S.ev X y= .int .i64 i
theorem x5.v{κ:Nat→Nat→Option Value}{sv:Nat→Value}{a:Act}{w:World}(hs:dh X κ sv S a w){v:Option Operand}{i d:Nat}(h:x5 X S v i d):Oc (v.map a.eval) i d:=by
 rcases h with⟨rfl,rfl⟩|⟨y,rfl,hy⟩
 ·exact .inl ⟨rfl,rfl⟩
 ·exact .inr (by simp[dz hs hy])
theorem QD{T:TypeId}{r q:TRow}{z n i j:Nat}{f f' :Nat→List D}{lo hi:Option Operand}(ho:o.op= .slice T x lo hi none)(hx:S.ev X x= .sl z n f)
 (hlo:x5 X S lo i 0)(hhi:x5 X S hi j n)(hij:i≤j)(hjn:j≤n)
 (hr:nth X.Z.dS T=some r)(hk:Nat.beq r.k 3=true)(hq:nth X.Z.dS r.el=some q)(hq9:Nat.beq q.k 9=false)(hz:q.sz=z)(hf:∀k,k<j-i→f' k=f (i+k)):
 eu X o S (.sl z (j-i) f'):=fun κ sv a w hs=>by
 have hokr:=X.Z.tabOk _ _ hr (by intro e;rw[e]at hk;cases hk)
 have hokq:=X.Z.tabOk _ _ hq (by intro e;rw[e]at hq9;cases hq9)
 have hu:=cZ hokr hk
 have hxv:=hs.ev x
 rw[hx]at hxv
 have key:∀(b:Option Addr) (cap:Nat),a.eval x= .slice b n cap→n≤cap→∀w',(execOp a.eval o).run X.Z.P w' = .ok (.value (.slice (if cap=i then b else b.map (·.add (i*q.sz))) (j-i) (cap-i))) w' :=fun b cap he hnc w' =>by
  have:=oz (P:=X.Z.P) (w:=w') (a:=b) (len:=n) (cap:=cap) hu hokq (hlo.v hs) (hhi.v hs) hij (by omega)
  simp only[execOp,ho,he,Option.map_none]
  simp[this]
 generalize he:a.eval x=v at hxv
 cases hxv with
 |sl _ _ _ b off cap u hnc h1 h2 h3 h4=>
  refine⟨_, ?_,fun w' _=>key _ _ he hnc w'⟩
  by_cases hci:cap=i
  ·have:j-i=0:=by omega
   simp only[if_pos hci]
   rw[this]
   exact .slE _ _ _ _
  ·simp only[if_neg hci,Option.map_some,dQ]
   subst hz
   refine .sl _ _ _ b (off+i*q.sz) (cap-i) (fun k=>u (i+k)) (by omega) (fun k hk=>by rw[hf k hk];exact h1 _ (by omega)) (fun k hk=>by rw[hf k hk];exact h2 _ (by omega)) (fun k hk=>by rw[hf k hk];exact h3 _ (by omega)) (fun k m v hk hm=> ?_)
   have:=h4 (i+k) m v (by omega) hm
   rw[Nat.add_mul]at this
   rw[←this];congr 1;omega
 |sl0=>
  have hj:j=0:=by omega
  have hi:i=0:=by omega
  subst hj hi
  exact⟨_, .sl0 _ _,fun w' _=>key _ _ he (Nat.le_refl _) w'⟩
 |slE _ _ ad cap=>
  have hj:j=0:=by omega
  have hi:i=0:=by omega
  subst hj hi
  refine⟨_, ?_,fun w' _=>key _ _ he (Nat.zero_le _) w'⟩
  split
  ·exact .slE _ _ _ _
  ·exact .slE _ _ _ _
theorem NN{T:TypeId}{r q:TRow}{z n i j m:Nat}{f f' :Nat→List D}{lo:Option Operand}{hi mx:Operand}(ho:o.op= .slice T x lo (some hi) (some mx))(hx:S.ev X x= .sl z n f)
 (hlo:x5 X S lo i 0)(hhi:S.ev X hi= .int .i64 j)(hmx:S.ev X mx= .int .i64 m)(hij:i≤j)(hjm:j≤m)(hmn:m≤n)
 (hr:nth X.Z.dS T=some r)(hk:Nat.beq r.k 3=true)(hq:nth X.Z.dS r.el=some q)(hq9:Nat.beq q.k 9=false)(hz:q.sz=z)(hf:∀k,k<j-i→f' k=f (i+k)):
 eu X o S (.sl z (j-i) f'):=fun κ sv a w hs=>by
 have hokr:=X.Z.tabOk _ _ hr (by intro e;rw[e]at hk;cases hk)
 have hokq:=X.Z.tabOk _ _ hq (by intro e;rw[e]at hq9;cases hq9)
 have hu:=cZ hokr hk
 have hxv:=hs.ev x
 rw[hx]at hxv
 have e1:=dz hs hhi
 have e2:=dz hs hmx
 have key:∀(b:Option Addr) (cap:Nat),a.eval x= .slice b n cap→n≤cap→∀w',(execOp a.eval o).run X.Z.P w' = .ok (.value (.slice (if m=i then b else b.map (·.add (i*q.sz))) (j-i) (m-i))) w' :=fun b cap he hnc w' =>by
  have hmc:m≤cap:=by omega
  have:(Instr.sliceAt T (.slice b n cap) (lo.map a.eval) (some (.int .i64 j)) (some (.int .i64 m))).run X.Z.P w' = .ok (.slice (if m=i then b else b.map (·.add (i*q.sz))) (j-i) (m-i)) w' :=by
   rcases hlo.v hs with⟨h1,rfl⟩|h1<;>rw[h1]<;>
    simp[Instr.sliceAt,Instr.slice,Instr.sliceBounds,Instr.sliceBound,asIntOf,run_underlying hu,dR hokq,hij,hjm,hmc]
  simp only[execOp,ho,he,Option.map_some,e1,e2]
  simp[this]
 generalize he:a.eval x=v at hxv
 cases hxv with
 |sl _ _ _ b off cap u hnc h1 h2 h3 h4=>
  refine⟨_, ?_,fun w' _=>key _ _ he hnc w'⟩
  by_cases hci:m=i
  ·have:j-i=0:=by omega
   simp only[if_pos hci]
   rw[this]
   exact .slE _ _ _ _
  ·simp only[if_neg hci,Option.map_some,dQ]
   subst hz
   refine .sl _ _ _ b (off+i*q.sz) (m-i) (fun k=>u (i+k)) (by omega) (fun k hk=>by rw[hf k hk];exact h1 _ (by omega)) (fun k hk=>by rw[hf k hk];exact h2 _ (by omega)) (fun k hk=>by rw[hf k hk];exact h3 _ (by omega)) (fun k m v hk hm=> ?_)
   have:=h4 (i+k) m v (by omega) hm
   rw[Nat.add_mul]at this
   rw[←this];congr 1;omega
 |sl0=>
  have hj:j=0:=by omega
  have hi:i=0:=by omega
  have hm:m=0:=by omega
  subst hj hi hm
  exact⟨_, .sl0 _ _,fun w' _=>by have:=key _ _ he (Nat.le_refl _) w';simpa using this⟩
 |slE _ _ ad cap=>
  have hj:j=0:=by omega
  have hi:i=0:=by omega
  have hm:m=0:=by omega
  subst hj hi hm
  exact⟨_, .slE _ _ _ _,fun w' _=>by have:=key _ _ he (Nat.zero_le _) w';simpa using this⟩
theorem Px{T E:TypeId}{r q:TRow}{s g z n i j t n' :Nat}{f f' :Nat→List D}{lo hi:Option Operand}(ho:o.op= .slice T x lo hi none)(hd:o.dst=some t)(hx:S.ev X x= .os s g)(hg:S.γ s=g)(hσ:S.σ s= .arr E z n f)
 (hlo:x5 X S lo i 0)(hhi:x5 X S hi j n)(hij:i≤j)(hjn:j≤n)
 (hr:nth X.Z.dS T=some r)(hk:Nat.beq r.k 3=true)(hE:r.el=E)(hq:nth X.Z.dS E=some q)(hq9:Nat.beq q.k 9=false)(hz:q.sz=z)(hn' :n' =j-i)(hf:∀k,k<j-i→f' k=f (i+k)):
 kX X o S (S.owned t s (.arr E z n' f')):=fun κ sv a w hs=>by
 subst hn' hz hE
 have hokr:=X.Z.tabOk _ _ hr (by intro e;rw[e]at hk;cases hk)
 have hokq:=X.Z.tabOk _ _ hq (by intro e;rw[e]at hq9;cases hq9)
 have hu:=cZ hokr hk
 have hown0:=hs.wld.own s
 rw[hσ]at hown0
 obtain⟨xs,hown,hfl,hfc,hfr⟩:=hown0
 have hxv:=hs.ev x
 rw[hx]at hxv
 have hxe:a.eval x=sv s:=by
  generalize a.eval x=v at hxv
  cases hxv with
  |os _ _ _ _ hh _=>exact hh hg.symm
 have key:∀(b:Option Addr) (cap:Nat),sv s= .slice b n cap→n≤cap→(execOp a.eval o).run X.Z.P w= .ok (.value (.slice (if cap=i then b else b.map (·.add (i*q.sz))) (j-i) (cap-i))) w:=fun b cap he hnc=>by
  have:=oz (P:=X.Z.P) (w:=w) (a:=b) (len:=n) (cap:=cap) hu hokq (hlo.v hs) (hhi.v hs) hij (by omega)
  simp only[execOp,ho,hxe,he,Option.map_none]
  simp[this]
 have hdj:∀(k:Nat),k<j-i→((xs.drop (i*q.sz)).take ((j-i)*q.sz)|>.drop (k*q.sz)).take q.sz=(xs.drop ((i+k)*q.sz)).take q.sz:=fun k hk=>by
  have h1:k*q.sz+q.sz≤(j-i)*q.sz:=by have:=Nat.mul_le_mul_right q.sz (show k+1≤j-i by omega);rw[Nat.add_mul]at this;omega
  rw[List.drop_take,List.take_take,Nat.min_eq_left (by omega),List.drop_drop,Nat.add_mul]
 have hfin:∀pv:Value,pv.oneCell' =true→(∀b,cw (S.σ s) pv=some b→cw (S.σ s) (sv s)=some b)→eJ w (X.base s) r.el q.sz pv (j-i) ((xs.drop (i*q.sz)).take ((j-i)*q.sz))→
  (execOp a.eval o).run X.Z.P w= .ok (.value pv) w→
  ∃v w' κ' sv',((execOp a.eval o).run X.Z.P w= .ok (.value v) w'∨((execOp a.eval o).run X.Z.P w= .ok .skip w'∧v=Go.undef))∧dh X κ' sv' (S.owned t s (.arr r.el q.sz (j-i) f')) (a.put o.dst v) w' :=fun pv h1c hb hO hrun=>by
  rw[hd]
  refine⟨pv,w,κ,bM sv s pv, .inl hrun,dY hs t s (pv:=pv) h1c (bN (Below.refl _ _) _) (fun b hb' => .inr (hb b (by rw[hσ];rw[Bb]at hb';exact hb'))) ?_⟩
  refine⟨_,by rw[aj];exact hO,fun k hk=>by rw[hf k hk];exact hfl _ (by omega),fun k hk=>by rw[hf k hk];exact hfc _ (by omega),fun k hk=> ?_⟩
  rw[hf k hk,hdj k hk]
  exact(hfr (i+k) (by omega)).mono (dP κ S.γ sv s pv)
 rcases hown.2 with⟨hv,hn⟩|⟨b,off,cap,cur,hv,hbase,hh,hnc,hcm,hcs,htake⟩
 ·have hj:j=0:=by omega
  have hi:i=0:=by omega
  subst hj hi
  refine hfin _ rfl (fun b hb=> ?_) ⟨by simp, .inl ⟨rfl,rfl⟩⟩ (by have:=key none 0 (by rw[hv,hn]) (by omega);simpa using this)
  rw[hσ]at hb;cases hb
 ·refine hfin _ ?_ ?_ ?_ (key _ _ hv hnc)
  ·simp only[Option.map_some];split<;>rfl
  ·intro b' hb'
   rw[hσ]at hb'⊢
   rw[hv]
   simp only[Option.map_some,dQ]at hb'
   split at hb' <;>exact hb'
  ·have hxl:=hown.1
   have hin:i*q.sz≤n*q.sz:=Nat.mul_le_mul_right _ (by omega)
   have hjn' :i*q.sz+(j-i)*q.sz≤n*q.sz:=by rw[←Nat.add_mul];exact Nat.mul_le_mul_right _ (by omega)
   refine⟨by simp;omega, .inr ?_⟩
   by_cases hci:cap=i
   ·have h0:j-i=0:=by omega
    rw[if_pos hci,h0]
    exact⟨b,off,cap-i,cur,rfl,hbase,hh,by omega,by omega,by rw[show cap-i=0 by omega];omega,by simp⟩
   ·rw[if_neg hci]
    simp only[Option.map_some,dQ]
    refine⟨b,off+i*q.sz,cap-i,cur,rfl,hbase,hh,by omega,by omega, ?_, ?_⟩
    ·have:i*q.sz+(cap-i)*q.sz=cap*q.sz:=by rw[←Nat.add_mul];congr 1;omega
     omega
    ·rw[←htake,List.drop_take,List.take_take,List.drop_drop,Nat.min_eq_left (by omega)]
end
end Go.Ab
namespace Go.Ab
open Go Go.RowKit
section
variable {X:Ctx} {o:Oper} {S:St} {x y:Operand} {T T2:TypeId}
theorem nu{P:Program}{t:TypeId}{d:TypeDesc}{w:World}(hd:P.underlying t=some d)(ha:mo P t=false){a:Addr}{v:Value}(h:w.cell? a=some v):(loadVar t a).run P w= .ok v w:=by
 simp[loadVar,iW hd,ha,h]
theorem NV{l:List D}{j:Nat}{d:D}{td:TypeDesc}(ho:o.op= .load T x)(hx:S.ev X x= .rp l j)(hu:X.Z.P.underlying T=some td)(ha:mo X.Z.P T=false)(hd:nth l j=some d):eu X o S d:=fun κ sv a w hs=>by
 have h1:=hs.ev x
 rw[hx]at h1
 generalize he:a.eval x=v at h1
 cases h1 with
 |rp _ _ b off u _ hu' hκ=>
  rw[dX]at hd
  obtain⟨vj,hv,hrep⟩:=hu'.get hd
  refine⟨vj,hrep,fun w' hb=> ?_⟩
  have hc:=hs.wld.imm _ _ _ (hκ j vj hv)
  have hc' :w'.cell? ⟨b,off+j,none⟩=some vj:=(hb.cell (World.block_lt_of_cell? w _ hc)).trans hc
  simp[execOp,ho,he,Instr.loadAt,Instr.sureAddr,nu hu ha hc']
theorem NC{s g j:Nat}{l:List D}{d:D}{td:TypeDesc}(ho:o.op= .load T x)(hx:S.ev X x= .bx s g j)(hu:X.Z.P.underlying T=some td)(ha:mo X.Z.P T=false)
 (hg:S.γ s=g)(hσ:S.σ s= .box l)(hd:nth l j=some d):eu X o S d:=fun κ sv a w hs=>by
 obtain⟨b,Tb,cs,he,_,hh,hrep,_⟩:=gV hs hx hg hσ
 rw[dX]at hd
 obtain⟨vj,hv,hrj⟩:=hrep.get hd
 refine⟨vj,hrj,fun w' hb=> ?_⟩
 have hh' :w'.heap[b]? =some (.cells (List.toArray cs) Tb (0,0)):=by rw[hb.block b (Array.getElem?_eq_some_iff.1 hh).1];exact hh
 have hc' :w'.cell? ⟨b,j,none⟩=some vj:=by rw[cell_of_row w' b j _ _ _ hh'];simpa using hv
 simp[execOp,ho,he,Instr.loadAt,Instr.sureAddr,nu hu ha hc']
theorem NH{s:ByteArray}{ts:Array TypeId}(ho:o.op= .call {callee:= .builtin .len,args:= #[x],argTypes:=ts})(hT:ts[0]? =some T)(hx:S.ev X x= .str s)
 (hu:X.Z.P.underlying T=some .string):eu X o S (.int .i64 s.size):=fun κ sv a w hs=>
 ⟨.int .i64 s.size, .int _ _,fun w' _=>by simp[execOp,ho,resolve,invoke,builtin,Builtin.len_,hT,tf hs hx,run_underlying hu,goInt]⟩
theorem Nw{s:ByteArray}{i:Int}{b:UInt8}(ho:o.op= .index T x y)(hx:S.ev X x= .str s)(hy:S.ev X y= .int .i64 i)(hu:X.Z.P.underlying T=some .string)(h0:0≤i)(hb:s[i.toNat]? =some b):
 eu X o S (.int .u8 b.toNat):=fun κ sv a w hs=>
 ⟨.int .u8 b.toNat, .int _ _,fun w' _=>by simp[execOp,ho,tf hs hx,dz hs hy,Instr.index,asIntOf,run_underlying hu,h0,hb]⟩
theorem PN{s t:ByteArray}(ho:o.op= .binOp .eql T x y T2)(hx:S.ev X x= .str s)(hy:S.ev X y= .str t):eu X o S (.bool (s.toList==t.toList)):=fun κ sv a w hs=>
 ⟨.bool (s.toList==t.toList), .bool _,fun w' _=>by simp[execOp,ho,tf hs hx,tf hs hy,eqGuard,binOp,Op.stringOp]⟩
theorem PH{s t:ByteArray}(ho:o.op= .binOp .neq T x y T2)(hx:S.ev X x= .str s)(hy:S.ev X y= .str t):eu X o S (.bool (!(s.toList==t.toList))):=fun κ sv a w hs=>
 ⟨.bool (!(s.toList==t.toList)), .bool _,fun w' _=>by simp[execOp,ho,tf hs hx,tf hs hy,eqGuard,binOp,Op.stringOp]⟩
end
section
variable {X:Ctx} {o:Oper} {S:St} {x y:Operand} {T T2:TypeId}
theorem qj{P:Program}{w:World}{ty E:TypeId}{q:TRow}(hu:P.underlying T=some (.slice E))(hq:jE P E q=true){d a:Option Addr}{n m c c' :Nat}(h0:Nat.min m n=0):
 (Builtin.copy_ #[T,T2] ty #[.slice d n c, .slice a m c']).run P w= .ok (goInt 0) w:=by
 have hl:∀(x:Addr),(loadCells x 0).run P w= .ok #[] w:=fun x=>by simpa using run_loadCells_list (P:=P) w x [] (by simp)
 cases d<;>cases a<;>simp[Builtin.copy_,run_underlying hu,Builtin.lenOf,Builtin.firstCells,dR hq,h0,storeCells,hl]
theorem xF{P:Program}{w:World}{ty E:TypeId}{q:TRow}(hu:P.underlying T=some (.slice E))(hq:jE P E q=true){g off n m c c' k:Nat}{ad:Addr}{cur:Array Value}{news:List Value}{e:TypeId}(hk:Nat.min m n=k)
 (hg:w.heap[g]? =some (.cells cur e (0,0)))(hl:news.length=k*q.sz)(hn:∀j v,news[j]? =some v→w.cell? (ad.add j)=some v)(h1:∀v∈news,v.oneCell' =true)(hfit:off+news.length≤cur.size):
 (Builtin.copy_ #[T,T2] ty #[.slice (some ⟨g,off,none⟩) n c, .slice (some ad) m c']).run P w= .ok (goInt k) (w.setRow g (cur.toList.take off++news++cur.toList.drop (off+news.length)).toArray):=by
 have hld:=run_loadCells_list (P:=P) w ad news hn
 rw[hl]at hld
 have hst:=run_storeCells_at P g off e news 0 cur w hg (by simpa using hfit) h1
 simp only[Nat.add_zero]at hst
 simp[Builtin.copy_,run_underlying hu,Builtin.lenOf,Builtin.firstCells,dR hq,hk,hld,hst]
theorem MY{r q:TRow}{s g z n m t k:Nat}{E:TypeId}{f h f' :Nat→List D}{ts:Array TypeId}(ho:o.op= .call {callee:= .builtin .copy,args:= #[x,y],argTypes:=ts})(hts:ts= #[T,T2])(hd:o.dst=some t)
 (hx:S.ev X x= .os s g)(hg:S.γ s=g)(hσ:S.σ s= .arr E z n f)(hy:S.ev X y= .sl z m h)
 (hr:nth X.Z.dS T=some r)(hk:Nat.beq r.k 3=true)(hE:r.el=E)(hq:nth X.Z.dS E=some q)(hq9:Nat.beq q.k 9=false)(hz:q.sz=z)(hz0:Nat.beq z 0=false)
 (hkk:Nat.min m n=k)(h1:∀i,i<k→f' i=h i)(h2:∀i,k≤i→i<n→f' i=f i):
 kX X o S ⟨bM S.ρ t (.int .i64 k),S.γ,bM S.σ s (.arr E z n f')⟩:=fun κ sv a w hs=>by
 subst hts hE hz
 have hokr:=X.Z.tabOk _ _ hr (by intro e;rw[e]at hk;cases hk)
 have hokq:=X.Z.tabOk _ _ hq (by intro e;rw[e]at hq9;cases hq9)
 have hu:=cZ hokr hk
 have hown0:=hs.wld.own s
 rw[hσ]at hown0
 obtain⟨xs,hown,hfl,hfc,hfr⟩:=hown0
 have hxv:=hs.ev x
 rw[hx]at hxv
 have hxe:a.eval x=sv s:=by
  generalize a.eval x=v at hxv
  cases hxv with
  |os _ _ _ _ hh _=>exact hh hg.symm
 have hyv:=hs.ev y
 rw[hy]at hyv
 have hz1:0<q.sz:=by
  cases hzz:q.sz with
  |zero=>rw[hzz]at hz0;cases hz0
  |succ=>omega
 have hkm:k≤m:=hkk▸Nat.min_le_left _ _
 have hkn:k≤n:=hkk▸Nat.min_le_right _ _
 have hfin:∀(w' :World) (xs' :List Value),(Builtin.copy_ #[T,T2] o.type #[a.eval x,a.eval y]).run X.Z.P w= .ok (goInt k) w'→w.grownBy w' (cw (S.σ s) (sv s))→eJ w' (X.base s) r.el q.sz (sv s) n xs'→
  (∀i,i<n→(f' i).length=q.sz)→(∀i,i<n→aU (f' i)=true)→(∀i,i<n→RepL κ S.γ sv (f' i) ((xs'.drop (i*q.sz)).take q.sz))→
  ∃v w' κ' sv',((execOp a.eval o).run X.Z.P w= .ok (.value v) w'∨((execOp a.eval o).run X.Z.P w= .ok .skip w'∧v=Go.undef))∧dh X κ' sv' ⟨bM S.ρ t (.int .i64 k),S.γ,bM S.σ s (.arr r.el q.sz n f')⟩ (a.put o.dst v) w' :=fun w' xs' hrun hgr ho' e2 e3 e4=>by
  have hW:=hs.wld.rewrite s (.arr r.el q.sz n f') hgr (by rw[hσ];exact Bb _) ⟨xs',ho',e2,e3,e4⟩ S.ρ
  have hS:dh X κ sv ⟨S.ρ,S.γ,bM S.σ s (.arr r.el q.sz n f')⟩ a w' :=⟨hs.size,iw hs s hgr,hs.slot,hW⟩
  rw[hd]
  refine⟨.int .i64 k,w',κ,sv, .inl ?_,hS.put (some t) (.int _ _)⟩
  simp[execOp,ho,resolve,invoke,builtin,hrun,goInt]
 have hzero:∀(b:Option Addr) (cap:Nat),a.eval y= .slice b m cap→k=0→∃v w' κ' sv',((execOp a.eval o).run X.Z.P w= .ok (.value v) w'∨((execOp a.eval o).run X.Z.P w= .ok .skip w'∧v=Go.undef))∧dh X κ' sv' ⟨bM S.ρ t (.int .i64 k),S.γ,bM S.σ s (.arr r.el q.sz n f')⟩ (a.put o.dst v) w' :=fun b cap hye h0=>by
  refine hfin w xs ?_ (bN (Below.refl _ _) _) hown (fun i hi=>by rw[h2 i (by omega) hi];exact hfl i hi) (fun i hi=>by rw[h2 i (by omega) hi];exact hfc i hi) (fun i hi=>by rw[h2 i (by omega) hi];exact hfr i hi)
  rw[hye,hxe,h0]
  rcases hown.2 with⟨hv,_⟩|⟨g',off,cap',cur,hv,_⟩
  ·rw[hv];have:=qj (T2:=T2) (w:=w) (ty:=o.type) (d:=none) (a:=b) (n:=0) (m:=m) (c:=0) (c' :=cap) hu hokq (by simp)
   exact this
  ·rw[hv];exact qj hu hokq (by rw[hkk,h0])
 generalize hye:a.eval y=v at hyv
 cases hyv with
 |sl0=>exact hzero _ _ hye (by omega)
 |slE=>exact hzero _ _ hye (by omega)
 |sl _ _ _ b off cap u hmc hlz hac hul hκ=>
  by_cases hk0:k=0
  ·exact hzero _ _ hye hk0
  have hulen:∀i,i<k→(u i).length=q.sz:=fun i hi=>by rw[(hul i (by omega)).length,hlz i (by omega)]
  have hnl:(((List.range k).map u).flatten).length=k*q.sz:=by
   rw[oR _ (z:=q.sz) (fun c hc=>by
    obtain⟨j,hj,rfl⟩:=List.mem_map.1 hc
    exact hulen j (by simpa using hj))]
   simp
  have hcellat:∀j v,(((List.range k).map u).flatten)[j]? =some v→∃i l,i<k∧l<q.sz∧j=i*q.sz+l∧(u i)[l]? =some v:=by
   intro j v hj
   have hjl:=(List.getElem?_eq_some_iff.1 hj).1
   rw[hnl]at hjl
   have hl:j%q.sz<q.sz:=Nat.mod_lt _ hz1
   have hi:j/q.sz<k:=(Nat.div_lt_iff_lt_mul hz1).2 hjl
   have e:j=j/q.sz*q.sz+j%q.sz:=by rw[Nat.mul_comm];exact(Nat.div_add_mod j q.sz).symm
   refine⟨j/q.sz,j%q.sz,hi,hl,e, ?_⟩
   rw[e,nk _ (z:=q.sz) (fun c hc=>by
    obtain⟨i,hi,rfl⟩:=List.mem_map.1 hc
    exact hulen i (by simpa using hi)) _ _ hl]at hj
   simpa[hi]using hj
  have hxl:=hown.1
  have hknz:k*q.sz≤n*q.sz:=Nat.mul_le_mul_right _ hkn
  rcases hown.2 with⟨hv,hn0⟩|⟨g',off',cap',cur,hv,hbase,hheap,hnc,hcm,hsz,htake⟩
  ·omega
  have hcap:n*q.sz≤cap' *q.sz:=Nat.mul_le_mul_right _ hnc
  have hrun:=xF (T2:=T2) (w:=w) (ty:=o.type) (c:=cap') (c' :=cap) (ad:=⟨b,off,none⟩) (off:=off') hu hokq hkk hheap hnl
   (fun j v hj=>by
     obtain⟨i,l,hi,hl,rfl,hv⟩:=hcellat j v hj
     rw[dQ,←Nat.add_assoc]
     exact hs.wld.imm _ _ _ (hκ i l v (by omega) hv))
   (fun v hv=>by
     obtain⟨j,hj⟩:=List.getElem?_of_mem hv
     obtain⟨i,l,hi,hl,rfl,hv⟩:=hcellat j v hj
     exact RepL.kq (hul i (by omega)) (hac i (by omega)) v (List.mem_of_getElem? hv))
   (by rw[hnl];omega)
  obtain⟨news,hnews⟩:∃news,((List.range k).map u).flatten=news:=⟨_,rfl⟩
  have hfc1:=qI u k hulen
  rw[hnews]at hrun hnl hfc1
  refine hfin _ (news++xs.drop (k*q.sz)) (by rw[hxe,hye,hv];exact hrun) (by rw[hσ,hv];exact fZ _ _ _) ?_ (fun i hi=> ?_) (fun i hi=> ?_) (fun i hi=> ?_)
  ·refine⟨by simp[hnl];omega, .inr ⟨g',off',cap',_,hv,hbase,setRow_heap w g' cur _ _ (0,0) hheap,hnc,hcm, ?_, ?_⟩⟩
   ·simp[hnl];omega
   ·have:=qE (cur:=cur.toList) (ds:=news) (off:=off') (p:=0) (N:=n*q.sz) (by rw[hnl];omega) (by simp;omega)
    simp only[Nat.add_zero,Nat.zero_add,List.take_zero,List.nil_append]at this
    rw[this,htake,hnl]
  ·by_cases hik:i<k
   ·rw[h1 i hik];exact hlz i (by omega)
   ·rw[h2 i (by omega) hi];exact hfl i hi
  ·by_cases hik:i<k
   ·rw[h1 i hik];exact hac i (by omega)
   ·rw[h2 i (by omega) hi];exact hfc i hi
  ·by_cases hik:i<k
   ·rw[h1 i hik,jn hnl hik,hfc1 i hik];exact hul i (by omega)
   ·rw[h2 i (by omega) hi]
    obtain⟨j,rfl⟩:∃j,i=k+j:=⟨i-k,by omega⟩
    rw[jr hnl,List.drop_drop,←Nat.add_mul]
    exact hfr _ hi
end
end Go.Ab
namespace Go.Ab
open Go Go.RowKit
set_option linter.all false
structure v8 (Z:Seat) (f:FuncId) (l l' A:List D) (R:D) (E z n:Nat) (el:Nat→List D):Prop where
 pureA:af A
 purel:af l
 purel' :af l'
 cell' :aU l' =true
 poR:PO R
 pureE:∀i,i<n→af (el i)
 body:fN Z.P f
 calls:∀(w:World) (κ:Nat→Nat→Option Value) (args:List Value) (b:Nat) (T:TypeId) (cs:List Value),Fits κ w→(∀o,κ b o=none)→w.heap[b]? =some (.cells (List.toArray cs) T (0,0))→RepL κ tn m9 l cs→jM Z κ→RepL κ tn m9 A args→
  Calls Z.P f (Value.pointer (some ⟨b,0,none⟩)::args).toArray w fun e w' =>∃v sl κ' cs' T',e= .returned v∧w'.heap[b]? =some (.cells (List.toArray cs') T' (0,0))∧RepL κ' tn m9 l' cs'∧
   cX κ' (fun _=>1) (fun _=>sl) (kY 0 1 R) v∧(∀b o u,κ b o=some u→κ' b o=some u)∧(∀b o u,b<w.heap.size→κ' b o=some u→κ b o=some u)∧
   (∀b o u,κ' b o=some u→w'.cell? ⟨b,o,none⟩=some u)∧iC w.heap.size κ' (fun _=>1) (fun _=>sl) w' 0 (.arr E z n el)∧(∀b,cw (.arr E z n el) sl=some b→∀o,κ' b o=none)∧Frame (some b) w w'
section
variable {X:Ctx} {Q:Exit→St→Prop} {S:St} {ops:Array Oper} {o:Oper} {rest:List Oper}
theorem Hu(p:Nat){f:FuncId}{x0:Operand}{xs:List Operand}{ts:Array TypeId}{l l' A:List D}{R:D}{E z n:Nat}{el:Nat→List D}{s g:Nat}(hps:p≠s)(hg:o.guard=none)(ho:o.op= .call {callee:= .value (.func f),args:=(x0::xs).toArray,argTypes:=ts})(hx:S.ev X x0= .bx s g 0)(hγ:S.γ s=g)(hσ:S.σ s= .box l)
 (hc:v8 X.Z f l l' A R E z n el)(hA:xs.map (S.ev X)=A){t:Nat}(hd:o.dst=some t){R' :D}(hR:kY p (S.γ p+1) R=R')
 (hk:WL X ops rest Q ⟨bM S.ρ t R',bM S.γ p (S.γ p+1),bM (bM S.σ s (.box l')) p (.arr E z n el)⟩):WL X ops (o::rest) Q S:=fun κ sv a w hs=>by
 subst hR
 obtain⟨b,T,cs,he,hsv,hh,hrep,hac⟩:=gV hs hx hγ hσ
 have hblk:cw (S.σ s) (sv s)=some b:=by rw[hσ,hsv];rfl
 have hr:=en hs xs
 rw[hA]at hr
 have hrun:=fr (P:=X.Z.P) (a:=a) (w:=w) hc.body ho
 simp only[List.map_cons,he]at hrun
 have hcall:=hc.calls w κ (xs.map a.eval) b T cs (dh.fits hs.wld) (fun o=>hs.wld.sep s b o hblk) hh (hrep.pure (fun _ _ _ h=>h) hc.purel) (dh.fV hs.wld) (hr.pure (fun _ _ _ h=>h) hc.pureA)
 refine wpListIn_plain hg fun K hK=>eW hrun hcall ?_
 rintro e w' ⟨v,sl,κ',cs',T',rfl,hh',hl',hv,k1,k2,k3,hown,hsep,hfr⟩
 have hgr:w.grownBy w' (some b):=⟨hfr.os,hfr.tape,hfr.output,hfr.size,fun k hk hne=>hfr.block k hk hne⟩
 have hle:Le κ κ' S.γ (bM S.γ p (S.γ p+1)) sv (bM sv p sl):=by
  obtain⟨a,b,c⟩:=dP κ S.γ sv p sl
  exact⟨k1,b,c⟩
 have hnew:∀b',cw (.arr E z n el) sl=some b'→w.heap.size≤b'∧b' <w'.heap.size∧∀o,κ' b' o=none:=fun b' hbk=>by
  obtain⟨xs,e1,_⟩:=hown
  rcases e1.2 with⟨hv,_⟩|⟨b'',off,cap,cur,hv,hbase,hh,_⟩
  ·simp only at hv;rw[hv]at hbk;cases hbk
  ·simp only at hv
   rw[hv]at hbk;simp only[cw,Option.some.injEq]at hbk;subst hbk
   exact⟨hbase,(Array.getElem?_eq_some_iff.1 hh).1,hsep b'' (by rw[hv];rfl)⟩
 have hbt:∀t,t≠s→∀b',cw (S.σ t) (sv t)=some b'→w'.heap[b']? =w.heap[b']? :=fun t ht b' hb' =>
  hgr.block b' (cy (hs.wld.own t) hb') (fun e=>ht (hs.wld.inj t s b' hb' (by rw[hblk];exact e.symm)))
 have hbk:∀t b',cw (bM (bM S.σ s (.box l')) p (.arr E z n el) t) (bM sv p sl t)=some b'→(t=p∧cw (.arr E z n el) sl=some b')∨(t≠p∧cw (S.σ t) (sv t)=some b'):=by
  intro t b' hb'
  by_cases e:t=p
  ·subst e;rw[aj,aj]at hb';exact .inl ⟨rfl,hb'⟩
  ·rw[bg _ _ _ _ e,bg _ _ _ _ e]at hb'
   refine .inr ⟨e, ?_⟩
   by_cases e2:t=s
   ·subst e2;rw[aj,hsv]at hb';rw[hblk];exact hb'
   ·rw[bg _ _ _ _ e2]at hb';exact hb'
 have hκb:∀o,κ' b o=none:=fun o=>by
  cases hk:κ' b o with
  |none=>rfl
  |some u=>
   have h2:=k2 b o u (cy (hs.wld.own s) hblk) hk
   rw[hs.wld.sep s b o hblk]at h2;cases h2
 have hW:cV X κ' (bM sv p sl) ⟨S.ρ,bM S.γ p (S.γ p+1),bM (bM S.σ s (.box l')) p (.arr E z n el)⟩ w' :=by
  have h0:=hs.wld
  obtain⟨h1,h2,h3,h4,h5,_,h7,h8,h9,h10,h11,h12,h13,h14⟩:=hs.wld
  refine⟨k3,fun t=> ?_,fun t u b' ht hu=> ?_,fun t b' o ht=> ?_,fun t b' ht=> ?_,kH h0 hgr (fun b' e=>⟨s,by rw[hblk];exact e⟩) (fun t b' ht=> ?_),fun g l hgl=> ?_,fun b' o v hlt hk=>k2 b' o v (Nat.lt_of_lt_of_le hlt h10) hk|>h8 b' o v hlt,fun b' hb' => ?_,Nat.le_trans h10 hgr.size,h11.trans hle,fun b' o v hk hT=> ?_,fun t b' ht hT=> ?_,fun b' h=>Nat.lt_of_lt_of_le (h14 b' h) hgr.size⟩
  ·by_cases e:t=p
   ·subst e
    simp only[aj]
    obtain⟨xs,e1,e2,e3,e4⟩:=hown
    exact⟨xs,by rw[aj];exact jh e1 (Nat.le_trans (X.Gw _) h10),e2,e3,fun i hi=>(e4 i hi).pure (fun _ _ _ h=>h) (hc.pureE i hi)⟩
   ·simp only[bg _ _ _ _ e]
    by_cases e2:t=s
    ·subst e2;simp only[aj]
     exact⟨b,T',cs',by rw[bg _ _ _ _ e];exact hsv,hh',hl'.pure (fun _ _ _ h=>h) hc.purel',hc.cell'⟩
    ·simp only[bg _ _ _ _ e2]
     exact du hle (bg _ _ _ _ e) (hbt t e2) (h2 t)
  ·simp only at ht hu
   rcases hbk t b' ht with⟨rfl,a1⟩|⟨e1,a1⟩<;>rcases hbk u b' hu with⟨rfl,a2⟩|⟨e2,a2⟩
   ·rfl
   ·have:=cy (h2 u) a2;have:=(hnew b' a1).1;omega
   ·have:=cy (h2 t) a1;have:=(hnew b' a2).1;omega
   ·exact h3 t u b' a1 a2
  ·simp only at ht
   rcases hbk t b' ht with⟨rfl,a1⟩|⟨e1,a1⟩
   ·exact(hnew b' a1).2.2 o
   ·cases hk:κ' b' o with
    |none=>rfl
    |some v=>have h20:=k2 b' o v (cy (h2 t) a1) hk;rw[h4 t b' o a1]at h20;cases h20
  ·simp only at ht
   rcases hbk t b' ht with⟨rfl,a1⟩|⟨e1,a1⟩
   ·exact .inl (Nat.le_trans h10 (hnew b' a1).1)
   ·exact h5 t b' a1
  ·rcases hbk t b' ht with⟨rfl,a1⟩|⟨e1,a1⟩
   ·exact .inl (hnew b' a1).1
   ·exact .inr ⟨t,a1⟩
  ·obtain⟨hc2,u,hu,hk⟩:=h7 g l hgl
   exact⟨hc2,u,hu.mono hle,fun j v hj=>k1 _ _ _ (hk j v hj)⟩
  ·obtain⟨e1,e2⟩:=h9 b' hb'
   by_cases e:0=p
   ·subst e;simp only[aj];exact⟨by omega,fun e=>by omega⟩
   ·simp only[bg _ _ _ _ e];exact⟨e1,e2⟩
  ·by_cases e:b' <w.heap.size
   ·exact h12 b' o v (k2 b' o v e hk) hT
   ·have:=h14 b' hT;omega
  ·simp only at ht
   rcases hbk t b' ht with⟨rfl,a1⟩|⟨e1,a1⟩
   ·have:=h14 b' hT;have:=(hnew b' a1).1;omega
   ·exact h13 t b' a1 hT
 have hs' :dh X κ' (bM sv p sl) ⟨S.ρ,bM S.γ p (S.γ p+1),bM (bM S.σ s (.box l')) p (.arr E z n el)⟩ a w' :=⟨hs.size,iw hs s (by rw[hblk];exact hgr),fun i hi=>(hs.slot i hi).mono hle,hW⟩
 refine⟨v,rfl, ?_⟩
 rw[hd]
 exact hK _ _ (hk κ' _ _ w' (hs'.put (some t) (rB (p:=0) (g:=1) (fun _ _ _ h=>h) rfl (aj _ _ _) (aj _ _ _) hc.poR hv)))
end
end Go.Ab
namespace Go.Ab
open Go Go.RowKit
set_option linter.all false
section
variable {X:Ctx} {o:Oper} {S:St} {x:Operand}
theorem Qm{T E:TypeId}{r q:TRow}{s g z n i j:Nat}{f:Nat→List D}{lo hi:Option Operand}(ho:o.op= .slice T x lo hi none)(hx:S.ev X x= .os s g)(hg:S.γ s=g)(hσ:S.σ s= .arr E z n f)
 (hlo:x5 X S lo i 0)(hhi:x5 X S hi j n)(hij:i≤j)(hjn:j≤n)
 (hr:nth X.Z.dS T=some r)(hk:Nat.beq r.k 3=true)(hq:nth X.Z.dS r.el=some q)(hq9:Nat.beq q.k 9=false)(hz:q.sz=z):
 eu X o S (.ow s g z i (j-i)):=fun κ sv a w hs=>by
 subst hz
 have hokr:=X.Z.tabOk _ _ hr (by intro e;rw[e]at hk;cases hk)
 have hokq:=X.Z.tabOk _ _ hq (by intro e;rw[e]at hq9;cases hq9)
 have hu:=cZ hokr hk
 have hown0:=hs.wld.own s
 rw[hσ]at hown0
 obtain⟨xs,hown,_⟩:=hown0
 have hxv:=hs.ev x
 rw[hx]at hxv
 have hxe:a.eval x=sv s:=by
  generalize a.eval x=v at hxv
  cases hxv with
  |os _ _ _ _ hh _=>exact hh hg.symm
 have fin:∀(ad:Option Addr) (cap:Nat),sv s= .slice ad n cap→n≤cap→(Value.slice (if cap=i then ad else ad.map (·.add (i*q.sz))) (j-i) (cap-i)).oneCell' =true→
  ∃v,cX κ S.γ sv (.ow s g q.sz i (j-i)) v∧∀w',Below w.heap.size w w'→(execOp a.eval o).run X.Z.P w' = .ok (.value v) w' :=fun ad cap he hnc h1c=>by
  refine⟨_, .ow s g q.sz i (j-i) _ (by omega) (fun _=>⟨ad,n,cap,he,rfl⟩) h1c,fun w' _=> ?_⟩
  have:=oz (P:=X.Z.P) (w:=w') (a:=ad) (len:=n) (cap:=cap) hu hokq (hlo.v hs) (hhi.v hs) hij (by omega)
  simp only[execOp,ho,hxe,he,Option.map_none]
  simp[this]
 rcases hown.2 with⟨hv,hn⟩|⟨b,off,cap,cur,hv,_,_,hnc,_⟩
 ·refine fin none 0 (by rw[hv,hn]) (by omega) ?_
  split<;>rfl
 ·refine fin _ cap hv hnc ?_
  split<;>rfl
theorem M8{T E:TypeId}{r q:TRow}{x y:Operand}{s g z n k c m t n' :Nat}{f f' :Nat→List D}{ts:Array TypeId}(ho:o.op= .call {callee:= .builtin .append,args:= #[x,y],argTypes:=ts})(hts:ts= #[T,T])(hd:o.dst=some t)
 (hx:S.ev X x= .ow s g z 0 k)(hy:S.ev X y= .ow s g z c m)(hg:S.γ s=g)(hσ:S.σ s= .arr E z n f)(hkn:k≤n)(hcn:c+m≤n)(hkm:k+m≤n)
 (hr:nth X.Z.dS T=some r)(hk:Nat.beq r.k 3=true)(hE:r.el=E)(hq:nth X.Z.dS E=some q)(hq9:Nat.beq q.k 9=false)(hz:q.sz=z)(hzs:Nat.beq q.zs.length z=true)(hz0:Nat.beq z 0=false)
 (hb:(k+m)*q.bytes≤140737488355328)(hm:k+m≤140737488355328)(hn' :n' =k+m)(h1:∀i,i<k→f' i=f i)(h2:∀i,i<m→f' (k+i)=f (c+i)):
 kX X o S (S.owned t s (.arr E z n' f')):=fun κ sv a w hs=>by
 subst hts hn'
 have hokr:=X.Z.tabOk _ _ hr (by intro e;rw[e]at hk;cases hk)
 have hokq:=X.Z.tabOk _ _ hq (by intro e;rw[e]at hq9;cases hq9)
 obtain⟨iq,dq,hiq,hdq,hsq,hbq,⟨zv,hzv,hzf⟩,_⟩:=cW hokq
 have hu:=cZ hokr hk
 rw[hE]at hu
 have hown0:=hs.wld.own s
 rw[hσ]at hown0
 obtain⟨xs,hown,hfl,hfc,hfr⟩:=hown0
 have hxv:=hs.ev x
 have hyv:=hs.ev y
 rw[hx]at hxv
 rw[hy]at hyv
 have hzl:zv.cells.size=z:=by have:=tw hzf;have h2:=Nat.eq_of_beq_eq_true hzs;simp at this;omega
 have hz1:0<z:=by
  cases z with
  |zero=>cases hz0
  |succ z=>omega
 have hle:∀pv,Le κ κ S.γ (bM S.γ s (S.γ s+1)) sv (bM sv s pv):=dP κ S.γ sv s
 have hxl:xs.length=n*z:=hown.1
 rw[hd]
 have hxe:∃ad N cap,sv s= .slice ad N cap∧a.eval x= .slice (if cap=0 then ad else ad.map (·.add (0*z))) k (cap-0):=by
  generalize a.eval x=v at hxv
  cases hxv with
  |ow _ _ _ _ _ _ _ hh _=>exact hh hg.symm
 have hye:∃ad N cap,sv s= .slice ad N cap∧a.eval y= .slice (if cap=c then ad else ad.map (·.add (c*z))) m (cap-c):=by
  generalize a.eval y=v at hyv
  cases hyv with
  |ow _ _ _ _ _ _ _ hh _=>exact hh hg.symm
 obtain⟨ad,N,cap,hv,hxe⟩:=hxe
 obtain⟨ad2,N2,cap2,hv2,hye⟩:=hye
 rw[hv]at hv2
 simp only[Value.slice.injEq]at hv2
 obtain⟨rfl,rfl,rfl⟩:=hv2
 rcases hown.2 with⟨hv0,hn0⟩|⟨b,off,cap',cur,hv',hbase,hh,hnc,hcm,hcs,htake⟩
 ·rw[hv0]at hv
  simp only[Value.slice.injEq]at hv
  obtain⟨rfl,rfl,rfl⟩:=hv
  have hk0:k=0:=by omega
  have hm0:m=0:=by omega
  have hc0:c=0:=by omega
  subst hk0 hm0 hc0
  have hxe' :a.eval x= .slice none 0 0:=by rw[hxe];rfl
  have hye' :a.eval y= .slice none 0 0:=by rw[hye];rfl
  have hrun:=gK (P:=X.Z.P) (w:=w) (X.base s) T o.type E iq z hu hiq (.slice none 0 0) 0 [] ⟨by simp, .inl ⟨rfl,rfl⟩⟩
  refine⟨.slice none 0 0,w,κ,_, .inl ?_,dY hs t s (pv:= .slice none 0 0) rfl (bN (Below.refl _ _) _) (fun b hb=>by cases hb) ?_⟩
  ·simp[execOp,ho,resolve,invoke,builtin,hxe',hye',hrun]
  ·exact⟨[],by rw[aj];exact⟨by simp, .inl ⟨rfl,rfl⟩⟩,fun i hi=>by omega,fun i hi=>by omega,fun i hi=>by omega⟩
 ·rw[hv']at hv
  simp only[Value.slice.injEq]at hv
  obtain⟨rfl,rfl,rfl⟩:=hv
  have hkz:k*z≤n*z:=Nat.mul_le_mul_right _ hkn
  have hcz:c*z+m*z≤n*z:=by rw[←Nat.add_mul];exact Nat.mul_le_mul_right _ hcn
  have hxe' :a.eval x= .slice (some ⟨b,off,none⟩) k cap' :=by
   rw[hxe]
   by_cases h0:cap' =0
   ·rw[if_pos h0];simp
   ·rw[if_neg h0];simp[dQ]
  have hownk:eJ w (X.base s) E z (.slice (some ⟨b,off,none⟩) k cap') k (xs.take (k*z)):=by
   refine⟨by simp;omega, .inr ⟨b,off,cap',cur,rfl,hbase,hh,by omega,hcm,hcs, ?_⟩⟩
   rw[←htake,List.take_take,Nat.min_eq_left hkz]
  have hcells:∀j u,xs[j]? =some u→w.cell? ⟨b,off+j,none⟩=some u:=fun j u hj=>by
   have:=(show eJ w (X.base s) E z (.slice (some ⟨b,off,none⟩) n cap') n xs from⟨hown.1, .inr ⟨b,off,cap',cur,rfl,hbase,hh,hnc,hcm,hcs,htake⟩⟩).cells j u hj
   rwa[dQ]at this
  obtain⟨news,hnews⟩:∃l,(xs.drop (c*z)).take (m*z)=l:=⟨_,rfl⟩
  have hnl:news.length=m*z:=by rw[←hnews];simp;omega
  have hng:∀j u,news[j]? =some u→xs[c*z+j]? =some u:=fun j u hj=>by
   have hjl:=(List.getElem?_eq_some_iff.1 hj).1
   rw[←hnews,List.getElem?_take,if_pos (by omega),List.getElem?_drop]at hj
   exact hj
  have hone:∀(j:Nat) (u:Value),xs[j]? =some u→u.oneCell' =true:=fun j u hj=>by
   have hjl:=(List.getElem?_eq_some_iff.1 hj).1
   have hkk:j%z<z:=Nat.mod_lt _ hz1
   have hi:j/z<n:=(Nat.div_lt_iff_lt_mul hz1).2 (by omega)
   have e:j=j/z*z+j%z:=by rw[Nat.mul_comm];exact(Nat.div_add_mod j z).symm
   refine RepL.kq (hfr _ hi) (hfc _ hi) u ?_
   refine List.mem_of_getElem? (i:=j%z) ?_
   rw[List.getElem?_take,if_pos hkk,List.getElem?_drop,←e];exact hj
  have hchunk:∀i,i<m→(news.drop (i*z)).take z=(xs.drop ((c+i)*z)).take z:=fun i hi=>by
   have h1:i*z+z≤m*z:=by have:=Nat.mul_le_mul_right z (show i+1≤m by omega);rw[Nat.add_mul]at this;omega
   rw[←hnews,List.drop_take,List.take_take,Nat.min_eq_left (by omega),List.drop_drop,Nat.add_mul]
  obtain⟨ya,yc,hye',hycell⟩:∃ya yc,a.eval y= .slice (some ya) m yc∧∀j u,news[j]? =some u→w.cell? (ya.add j)=some u:=by
   by_cases h0:cap' =c
   ·have hm0:m=0:=by omega
    refine⟨⟨b,off,none⟩,cap' -c,by rw[hye,if_pos h0],fun j u hj=> ?_⟩
    have:=(List.getElem?_eq_some_iff.1 hj).1
    rw[hnl,hm0]at this;omega
   ·refine⟨⟨b,off+c*z,none⟩,cap' -c,by rw[hye,if_neg h0];simp[dQ],fun j u hj=> ?_⟩
    rw[dQ,Nat.add_assoc]
    exact hcells _ _ (hng j u hj)
  obtain⟨v',w',hrun,hown',hgr,hwh⟩:=eN (P:=X.Z.P) (w:=w) (X.base s) T o.type E iq zv z q.bytes hu hiq hzv (by rw[hsq,hz]) (by rw[hbq]) hzl hz1 (.slice (some ⟨b,off,none⟩) k cap') k (xs.take (k*z)) hownk ya m yc news hnl
   hycell (fun v hv=>by
    obtain⟨j,hj⟩:=List.getElem?_of_mem hv
    exact hone _ _ (hng j v hj)) (by unfold maxLen;omega) hb (hs.wld.mO _)
  have hob:(Value.slice (some (⟨b,off,none⟩:Addr)) k cap').ownBlock=cw (S.σ s) (sv s):=by rw[hσ,hv'];rfl
  rw[hob]at hgr
  have hxk:(xs.take (k*z)).length=k*z:=by simp;omega
  refine⟨v',w',κ,_, .inl ?_,dY hs t s (pv:=v') ?_ hgr (fun b' hb' => ?_) ?_⟩
  ·simp[execOp,ho,resolve,invoke,builtin,hxe',hye',hrun]
  ·rcases hown'.2 with⟨e,_⟩|⟨_,_,_,_,e,_⟩<;>rw[e]<;>rfl
  ·rw[←hob]
   refine hwh b' ?_
   rcases hown'.2 with⟨e,_⟩|⟨_,_,_,_,e,_⟩<;>(rw[e]at hb'⊢;exact hb')
  ·refine⟨_,by rw[aj];exact hown',fun i hi=> ?_,fun i hi=> ?_,fun i hi=> ?_⟩
   ·by_cases hin:i<k
    ·rw[h1 i hin];exact hfl i (by omega)
    ·obtain⟨p,rfl⟩:∃p,i=k+p:=⟨i-k,by omega⟩
     rw[h2 p (by omega)];exact hfl _ (by omega)
   ·by_cases hin:i<k
    ·rw[h1 i hin];exact hfc i (by omega)
    ·obtain⟨p,rfl⟩:∃p,i=k+p:=⟨i-k,by omega⟩
     rw[h2 p (by omega)];exact hfc _ (by omega)
   ·by_cases hin:i<k
    ·rw[h1 i hin,jn hxk hin]
     have hiz:i*z+z≤k*z:=by have:=Nat.mul_le_mul_right z (show i+1≤k by omega);rw[Nat.add_mul]at this;omega
     rw[List.drop_take,List.take_take,Nat.min_eq_left (by omega)]
     exact(hfr i (by omega)).mono (hle _)
    ·obtain⟨p,rfl⟩:∃p,i=k+p:=⟨i-k,by omega⟩
     rw[h2 p (by omega),jr hxk,hchunk p (by omega)]
     exact(hfr _ (by omega)).mono (hle _)
end
end Go.Ab
namespace Go.Ab
open Go Go.RowKit
set_option linter.all false
section
variable {X:Ctx} {S:St} {o:Oper} {T:TypeId} {r q:TRow}
theorem EX{x y:Operand}{s g s2 g2 z n m t n' :Nat}{E E2:TypeId}{f h f' :Nat→List D}{ts:Array TypeId}(ho:o.op= .call {callee:= .builtin .append,args:= #[x,y],argTypes:=ts})(hts:ts= #[T,T])(hd:o.dst=some t)
 (hx:(S.ev X x= .os s g∧S.γ s=g∧S.σ s= .arr E z n f)∨(S.ev X x= .nil∧n=0∧s=t))(hy:S.ev X y= .os s2 g2)(hg2:S.γ s2=g2)(hσ2:S.σ s2= .arr E2 z m h)
 (hr:nth X.Z.dS T=some r)(hk:Nat.beq r.k 3=true)(hE:r.el=E)(hq:nth X.Z.dS E=some q)(hq9:Nat.beq q.k 9=false)(hz:q.sz=z)(hzs:Nat.beq q.zs.length z=true)(hz0:Nat.beq z 0=false)
 (hb:(n+m)*q.bytes≤140737488355328)(hm:n+m≤140737488355328)(hn' :n' =n+m)(h1:∀i,i<n→f' i=f i)(h2:∀i,i<m→f' (n+i)=h i):
 kX X o S (S.owned t s (.arr E z n' f')):=fun κ sv a w hs=>by
 subst hts hn'
 have hokr:=X.Z.tabOk _ _ hr (by intro e;rw[e]at hk;cases hk)
 have hokq:=X.Z.tabOk _ _ hq (by intro e;rw[e]at hq9;cases hq9)
 obtain⟨iq,dq,hiq,hdq,hsq,hbq,⟨zv,hzv,hzf⟩,_⟩:=cW hokq
 have hu:=cZ hokr hk
 rw[hE]at hu
 --the first one
 obtain⟨xv,xs,hxe,hown,hfl,hfc,hfr,hbx⟩:∃xv xs,a.eval x=xv∧eJ w (X.base s) E z xv n xs∧(∀i,i<n→(f i).length=z)∧(∀i,i<n→aU (f i)=true)∧(∀i,i<n→RepL κ S.γ sv (f i) ((xs.drop (i*z)).take z))∧(xv= .slice none 0 0∨cw (S.σ s) (sv s)=xv.ownBlock):=by
  rcases hx with⟨hx,hg,hσ⟩|⟨hx,rfl,_⟩
  ·have hown0:=hs.wld.own s
   rw[hσ]at hown0
   obtain⟨xs,hown,hfl,hfc,hfr⟩:=hown0
   have hxv:=hs.ev x
   rw[hx]at hxv
   refine⟨sv s,xs, ?_,hown,hfl,hfc,hfr, .inr ?_⟩
   ·generalize a.eval x=v at hxv
    cases hxv with
    |os _ _ _ _ hh _=>exact hh hg.symm
   ·rw[hσ]
    rcases hown.2 with⟨e,_⟩|⟨_,_,_,_,e,_⟩<;>rw[e]<;>rfl
  ·have hxv:=hs.ev x
   rw[hx]at hxv
   refine⟨.slice none 0 0,[], ?_,gS _ _ _ _,fun i hi=>by omega,fun i hi=>by omega,fun i hi=>by omega, .inl rfl⟩
   generalize a.eval x=v at hxv
   cases hxv;rfl
 --the second one
 have hown2:=hs.wld.own s2
 rw[hσ2]at hown2
 obtain⟨ys,hownY,hyl,hyc,hyr⟩:=hown2
 have hyv:=hs.ev y
 rw[hy]at hyv
 have hye:a.eval y=sv s2:=by
  generalize a.eval y=v at hyv
  cases hyv with
  |os _ _ _ _ hh _=>exact hh hg2.symm
 have hzl:zv.cells.size=z:=by have:=tw hzf;have h2:=Nat.eq_of_beq_eq_true hzs;simp at this;omega
 have hz1:0<z:=by
  cases z with
  |zero=>cases hz0
  |succ z=>omega
 have hle:∀pv,Le κ κ S.γ (bM S.γ s (S.γ s+1)) sv (bM sv s pv):=dP κ S.γ sv s
 have hxl:xs.length=n*z:=hown.1
 have hys:ys.length=m*z:=hownY.1
 have hrow:∀b,xv.ownBlock=some b→cw (S.σ s) (sv s)=some b:=fun b hb=>by
  rcases hbx with e|e
  ·rw[e]at hb;cases hb
  ·rw[e];exact hb
 have hgrow:∀{w' :World},w.grownBy w' xv.ownBlock→w.grownBy w' (cw (S.σ s) (sv s)):=fun{w'} hgr=>by
  rcases hbx with e|e
  ·rw[e]at hgr
   exact⟨hgr.os,hgr.tape,hgr.output,hgr.size,fun k hk _=>hgr.block k hk (by simp[Value.ownBlock])⟩
  ·rw[e];exact hgr
 rw[hd]
 have fin:∀(v' :Value) (w' :World),(Builtin.append_ #[T,T] o.type #[xv,sv s2]).run X.Z.P w= .ok v' w'→eJ w' (X.base s) E z v' (n+m) (xs++ys)→w.grownBy w' xv.ownBlock→(∀b',v'.ownBlock=some b'→w.heap.size≤b'∨xv.ownBlock=some b')→
  ∃v w' κ' sv',((execOp a.eval o).run X.Z.P w= .ok (.value v) w'∨((execOp a.eval o).run X.Z.P w= .ok .skip w'∧v=Go.undef))∧dh X κ' sv' (S.owned t s (.arr E z (n+m) f')) (a.put (some t) v) w' :=fun v' w' hrun hown' hgr hwh=>by
  refine⟨v',w',κ,_, .inl ?_,dY hs t s (pv:=v') ?_ (hgrow hgr) (fun b' hb' => ?_) ?_⟩
  ·simp[execOp,ho,resolve,invoke,builtin,hxe,hye,hrun]
  ·rcases hown'.2 with⟨e,_⟩|⟨_,_,_,_,e,_⟩<;>rw[e]<;>rfl
  ·have hb2:v'.ownBlock=some b' :=by
    rcases hown'.2 with⟨e,_⟩|⟨_,_,_,_,e,_⟩<;>(rw[e]at hb'⊢;exact hb')
   rcases hwh b' hb2 with h|h
   ·exact .inl h
   ·exact .inr (hrow b' h)
  ·refine⟨_,by rw[aj];exact hown',fun i hi=> ?_,fun i hi=> ?_,fun i hi=> ?_⟩
   ·by_cases hin:i<n
    ·rw[h1 i hin];exact hfl i hin
    ·obtain⟨k,rfl⟩:∃k,i=n+k:=⟨i-n,by omega⟩
     rw[h2 k (by omega)];exact hyl k (by omega)
   ·by_cases hin:i<n
    ·rw[h1 i hin];exact hfc i hin
    ·obtain⟨k,rfl⟩:∃k,i=n+k:=⟨i-n,by omega⟩
     rw[h2 k (by omega)];exact hyc k (by omega)
   ·by_cases hin:i<n
    ·rw[h1 i hin,jn hxl hin];exact(hfr i hin).mono (hle _)
    ·obtain⟨k,rfl⟩:∃k,i=n+k:=⟨i-n,by omega⟩
     rw[h2 k (by omega),jr hxl]
     exact(hyr k (by omega)).mono (hle _)
 rcases hownY.2 with⟨ev,rfl⟩|⟨g3,off,cap,cur,ev,q1,q2,q3,q4,q5,q6⟩
 ·have hy0:ys=[]:=List.eq_nil_of_length_eq_zero (by simpa using hys)
  subst hy0
  have hrun:=gK (P:=X.Z.P) (w:=w) (X.base s) T o.type E iq z hu hiq xv n xs hown
  rw[←ev]at hrun
  exact fin xv w hrun (by simpa using hown) (bN (Below.refl _ _) _) (fun b hb=> .inr hb)
 ·rw[ev]at hownY
  obtain⟨v',w',hrun,hown',hgr,hwh⟩:=eN (P:=X.Z.P) (w:=w) (X.base s) T o.type E iq zv z q.bytes hu hiq hzv (by rw[hsq,hz]) (by rw[hbq]) hzl hz1 xv n xs hown ⟨g3,off,none⟩ m cap ys hys
   (fun j v hj=>hownY.cells j v hj)
   (fun v hv=>by
     obtain⟨j,hj⟩:=List.getElem?_of_mem hv
     have hjl:=(List.getElem?_eq_some_iff.1 hj).1
     rw[hys]at hjl
     have hk:j%z<z:=Nat.mod_lt _ hz1
     have hi:j/z<m:=(Nat.div_lt_iff_lt_mul hz1).2 hjl
     have e:j=j/z*z+j%z:=by rw[Nat.mul_comm];exact(Nat.div_add_mod j z).symm
     refine RepL.kq (hyr _ hi) (hyc _ hi) v ?_
     refine List.mem_of_getElem? (i:=j%z) ?_
     rw[List.getElem?_take,if_pos hk,List.getElem?_drop,←e]
     exact hj)
   (by unfold maxLen;omega) hb (hs.wld.mO _)
  rw[←ev]at hrun
  exact fin v' w' hrun hown' hgr hwh
theorem xJ{P:Program}{w:World}{ty E e:TypeId}{q:TRow}{kz:IntKind}(hu:P.underlying T=some (.slice E))(hq:jE P E q=true)(hz:q.zs=[.i kz]){g off m c:Nat}{cur:Array Value}
 (hg:w.heap[g]? =some (.cells cur e (0,0)))(hm:0<m)(hfit:off+m≤cur.size):
 (Builtin.clear_ #[T] ty #[.slice (some ⟨g,off,none⟩) m c]).run P w= .ok (.tuple #[]) (w.setRow g (cur.toList.take off++List.replicate m (Value.int kz 0)++cur.toList.drop (off+m)).toArray):=by
 obtain⟨iq,dq,hiq,hdq,hsq,hbq,⟨zv,hzv,hzf⟩,_⟩:=cW hq
 rw[hz]at hzf
 have hcells:zv.cells= #[.int kz 0]:=by
  cases hc:zv.cells.toList with
  |nil=>rw[hc]at hzf;cases hzf
  |cons u us=>
   rw[hc]at hzf
   cases us with
   |cons u2 us=>simp[Zr.rD]at hzf
   |nil=>
    have h1:Zr.fits (.i kz) u=true:=by simpa[Zr.rD]using hzf
    cases u<;>simp only[Zr.fits]at h1<;>try (cases h1;done)
    rename_i k' n
    simp only[Bool.and_eq_true,beq_iff_eq]at h1
    obtain⟨rfl,rfl⟩:=h1
    have:zv.cells=zv.cells.toList.toArray:=by simp
    rw[this,hc]
 have hzc:(Builtin.zeroCells zv.cells m).toList=List.replicate m (Value.int kz 0):=by
  rw[hcells]
  simp[Builtin.zeroCells]
  apply List.ext_getElem
  ·simp
  ·intro i h1 h2
   simp[Nat.mod_one]
 have hst:=run_storeCells_at P g off e (List.replicate m (Value.int kz 0)) 0 cur w hg (by simpa using hfit) (by intro v hv;rw[List.eq_of_mem_replicate hv];rfl)
 simp only[Nat.add_zero,List.length_replicate]at hst
 cases m with
 |zero=>omega
 |succ m=>simp[Builtin.clear_,run_underlying hu,zeroValue,typeInfo,hiq,hzv,hzc,hst]
theorem LX{x:Operand}{s g a0 m n:Nat}{E:TypeId}{kz:IntKind}{f f' :Nat→List D}{ts:Array TypeId}(ho:o.op= .call {callee:= .builtin .clear,args:= #[x],argTypes:=ts})(hts:ts= #[T])(hd:o.dst=none)
 (hx:S.ev X x= .ow s g 1 a0 m)(hg:S.γ s=g)(hσ:S.σ s= .arr E 1 n f)(ham:a0+m≤n)
 (hr:nth X.Z.dS T=some r)(hk:Nat.beq r.k 3=true)(hE:r.el=E)(hq:nth X.Z.dS E=some q)(hq9:Nat.beq q.k 9=false)(hzs:q.zs=[.i kz])
 (h1:∀i,i<n→a0≤i∧i<a0+m→f' i=[.int kz 0])(h2:∀i,i<n→¬(a0≤i∧i<a0+m)→f' i=f i):
 kX X o S ⟨S.ρ,S.γ,bM S.σ s (.arr E 1 n f')⟩:=fun κ sv a w hs=>by
 subst hts hE
 have hokr:=X.Z.tabOk _ _ hr (by intro e;rw[e]at hk;cases hk)
 have hokq:=X.Z.tabOk _ _ hq (by intro e;rw[e]at hq9;cases hq9)
 have hu:=cZ hokr hk
 have hown0:=hs.wld.own s
 rw[hσ]at hown0
 obtain⟨xs,hown,hfl,hfc,hfr⟩:=hown0
 have hxv:=hs.ev x
 rw[hx]at hxv
 have hfin:∀(w' :World) (xs' :List Value),(Builtin.clear_ #[T] o.type #[a.eval x]).run X.Z.P w= .ok (.tuple #[]) w'→w.grownBy w' (cw (S.σ s) (sv s))→eJ w' (X.base s) r.el 1 (sv s) n xs'→
  (∀i,i<n→RepL κ S.γ sv (f' i) ((xs'.drop (i*1)).take 1))→
  ∃v w' κ' sv',((execOp a.eval o).run X.Z.P w= .ok (.value v) w'∨((execOp a.eval o).run X.Z.P w= .ok .skip w'∧v=Go.undef))∧dh X κ' sv' ⟨S.ρ,S.γ,bM S.σ s (.arr r.el 1 n f')⟩ (a.put o.dst v) w' :=fun w' xs' hrun hgr ho' e4=>by
  have hlc:∀i,i<n→(f' i).length=1∧aU (f' i)=true:=fun i hi=>by
   by_cases h:a0≤i∧i<a0+m
   ·rw[h1 i hi h];exact⟨rfl,rfl⟩
   ·rw[h2 i hi h];exact⟨hfl i hi,hfc i hi⟩
  have hW:=hs.wld.rewrite s (.arr r.el 1 n f') hgr (by rw[hσ];exact Bb _) ⟨xs',ho',fun i hi=>(hlc i hi).1,fun i hi=>(hlc i hi).2,e4⟩ S.ρ
  have hS:dh X κ sv ⟨S.ρ,S.γ,bM S.σ s (.arr r.el 1 n f')⟩ a w' :=⟨hs.size,iw hs s hgr,hs.slot,hW⟩
  rw[hd]
  refine⟨.tuple #[],w',κ,sv, .inl ?_,hS⟩
  simp[execOp,ho,resolve,invoke,builtin,hrun]
 have hzero:m=0→∀i,i<n→f' i=f i:=fun h0 i hi=>h2 i hi (by omega)
 obtain⟨ad,N,cap,hsv,hv⟩:∃ad N cap,sv s= .slice ad N cap∧a.eval x= .slice (if cap=a0 then ad else ad.map (·.add (a0*1))) m (cap-a0):=by
  generalize a.eval x=v at hxv
  cases hxv with
  |ow _ _ _ _ _ _ _ hh _=>exact hh hg.symm
 by_cases hm0:m=0
 ·refine hfin w xs ?_ (bN (Below.refl _ _) _) hown (fun i hi=>by rw[hzero hm0 i hi];exact hfr i hi)
  rw[hv,hm0]
  cases(if cap=a0 then ad else ad.map (·.add (a0*1)))<;>simp[Builtin.clear_,run_underlying hu]
 rcases hown.2 with⟨hv0,hn0⟩|⟨g',off,cap',cur,hv0,hbase,hheap,hnc,hcm,hsz,htake⟩
 ·omega
 rw[hv0]at hsv
 simp only[Value.slice.injEq]at hsv
 obtain⟨rfl,rfl,rfl⟩:=hsv
 rw[if_neg (by omega)]at hv
 simp only[Option.map_some,Nat.mul_one,dQ]at hv
 have hrun:=xJ (w:=w) (T:=T) (ty:=o.type) (c:=cap' -a0) hu hokq hzs hheap (off:=off+a0) (m:=m) (by omega) (by omega)
 rw[←hv]at hrun
 have hxl:=hown.1
 refine hfin _ (xs.take a0++List.replicate m (Value.int kz 0)++xs.drop (a0+m)) hrun (by rw[hσ,hv0];exact fZ _ _ _) ?_ (fun i hi=> ?_)
 ·refine⟨by simp;omega, .inr ⟨g',off,cap',_,hv0,hbase,setRow_heap w g' cur _ _ (0,0) hheap,hnc,hcm, ?_, ?_⟩⟩
  ·simp;omega
  ·have:=qE (cur:=cur.toList) (ds:=List.replicate m (Value.int kz 0)) (off:=off) (p:=a0) (N:=n*1) (by simp;omega) (by simp;omega)
   simp only[List.length_replicate]at this
   rw[this,htake]
 ·have e0:(((xs.take a0++List.replicate m (Value.int kz 0)++xs.drop (a0+m)).drop (i*1)).take 1)=if a0≤i∧i<a0+m then[.int kz 0]else(xs.drop (i*1)).take 1:=by
   simp only[Nat.mul_one]at hxl⊢
   have hlen:(xs.take a0++List.replicate m (Value.int kz 0)++xs.drop (a0+m)).length=n:=by simp;omega
   have key:∀(l:List Value) (hl:l.length=n),(l.drop i).take 1=[l[i]'(by omega)]:=fun l hl=>by
    rw[List.drop_eq_getElem_cons (by omega)];rfl
   rw[key _ hlen,key _ hxl]
   split
   ·rename_i h
    rw[List.getElem_append_left (by simp;omega),List.getElem_append_right (by simp;omega)]
    simp
   ·rename_i h
    by_cases h3:i<a0
    ·rw[List.getElem_append_left (by simp;omega),List.getElem_append_left (by simp;omega)]
     simp
    ·rw[List.getElem_append_right (by simp;omega)]
     simp only[List.length_append,List.length_take,List.length_replicate,List.getElem_drop]
     congr 2
     congr 1
     omega
  rw[e0]
  split
  ·rename_i h;rw[h1 i hi h];exact .cons _ _ _ _ (.int _ _) .nil
  ·rename_i h;rw[h2 i hi h];exact hfr i hi
def Mq(κ:Nat→Nat→Option Value)(w:World)(R:D)(E z n:Nat)(el:Nat→List D)(e:Ending)(w' :World):Prop:=∃v sl κ',e= .returned v∧cX κ' (fun _=>1) (fun _=>sl) (kY 0 1 R) v∧(∀b o u,κ b o=some u→κ' b o=some u)∧(∀b o u,b<w.heap.size→κ' b o=some u→κ b o=some u)∧
 (∀b o u,κ' b o=some u→w'.cell? ⟨b,o,none⟩=some u)∧sl.oneCell' =true∧iC w.heap.size κ' (fun _=>1) (fun _=>sl) w' 0 (.arr E z n el)∧(∀b,cw (.arr E z n el) sl=some b→∀o,κ' b o=none)∧Below w.heap.size w w'
theorem Hb{κ κ' :Nat→Nat→Option Value}{γ γ' :Nat→Nat}{sv sv' :Nat→Value}{d:D}{v v0:Value}(h:kB d=some v0)(hr:cX κ γ sv d v):cX κ' γ' sv' d v:=by
 cases d<;>simp[kB]at h
 ·cases hr;exact .int _ _
 ·cases hr;exact .bool _
 ·cases hr;exact .str _
theorem H2{base:Nat}{κ:Nat→Nat→Option Value}{γ:Nat→Nat}{sv:Nat→Value}{w:World}{s:Nat}{E z m:Nat}{f:Nat→List D}(h:iC base κ γ sv w s (.arr E z m f)):∀b,cw (.arr E z m f) (sv s)=some b→base≤b:=fun b hb=>by
 obtain⟨xs,e1,_⟩:=h
 rcases e1.2 with⟨hv,_⟩|⟨g,off,cap,cur,hv,hbase,_⟩
 ·rw[hv]at hb;cases hb
 ·rw[hv]at hb;simp only[cw,Option.some.injEq]at hb;subst hb;exact hbase
theorem DY{κ:Nat→Nat→Option Value}{sv:Nat→Value}{a:Act}{w:World}(hs:dh X κ sv S a w){f:FuncId}{L A:List D}{vs:List Value}{E z n:Nat}{el:Nat→List D}{s1 g1:Nat}(hc:fG X.Z f A (.os s1 g1) E z n el)(hr:RepL κ S.γ sv L vs)(hA:je S L A)(hel:∀i,i<n→∀d∈el i,∃v0,kB d=some v0):
 Calls X.Z.P f vs.toArray w (Mq κ w (.os s1 g1) E z n el):=by
 let κ1:Nat→Nat→Option Value:=fun b o=>w.cell? ⟨b,o,none⟩
 have hle:Le κ κ1 S.γ S.γ sv sv:=⟨fun b o v hk=>hs.wld.imm b o v hk,fun _=>Nat.le_refl _,fun _ _=>rfl⟩
 have hr2:=hA.rep hs.wld hle (fun b o v h=>h) hr
 refine(hc.calls w κ1 _ (fun b o v h=>h) (fun g l hg=> ?_) (hr2.pure (fun _ _ _ h=>h) hc.pureA)).mono ?_
 ·obtain⟨h1,u,h2,h3⟩:=dh.fV hs.wld g l hg
  exact⟨h1,u,h2.mono ⟨fun b o v hk=>hs.wld.imm b o v hk,fun _=>Nat.le_refl _,fun _ _=>rfl⟩,fun j v hj=>hs.wld.imm _ _ _ (h3 j v hj)⟩
 ·rintro e w' ⟨v,sl,κ',rfl,hv,k1,k2,k3,hsl,hown,hsep,hb⟩
  have hlt:∀b o u,κ b o=some u→b<w.heap.size:=fun b o u hk=>by simpa using World.block_lt_of_cell? w _ (hs.wld.imm b o u hk)
  refine⟨v,sl,κ,rfl, ?_,fun _ _ _ h=>h,fun _ _ _ _ h=>h,fun b o u hk=>(hb.cell (World.block_lt_of_cell? w _ (hs.wld.imm b o u hk))).trans (hs.wld.imm b o u hk),hsl, ?_,fun b hbk o=> ?_,hb⟩
  ·simp only[kY]at hv⊢
   cases hv with
   |os _ _ _ h1 h2 h3=>exact .os _ _ _ h1 h2 h3
  ·obtain⟨xs,e1,e2,e3,e4⟩:=hown
   refine⟨xs,e1,e2,e3,fun i hi=> ?_⟩
   have key:∀{l:List D} {us:List Value},(∀d∈l,∃v0,kB d=some v0)→RepL κ' (fun _=>1) (fun _=>sl) l us→RepL κ (fun _=>1) (fun _=>sl) l us:=by
    intro l
    induction l with
    |nil=>intro us _ h;cases h;exact .nil
    |cons d l ih=>
     intro us hd h
     cases h with
     |cons _ _ _ _ h1 h2=>
      obtain⟨v0,hv0⟩:=hd d (List.mem_cons_self ..)
      exact .cons _ _ _ _ (Hb hv0 h1) (ih (fun x hx=>hd x (List.mem_cons_of_mem _ hx)) h2)
   exact key (hel i hi) (e4 i hi)
  ·cases hk:κ b o with
   |none=>rfl
   |some u=>
    have h1:=hlt b o u hk
    have h2:=H2 hown b hbk
    omega
end
end Go.Ab
namespace Go.Ab
open Go Go.RowKit
set_option linter.all false
theorem O9{X:Ctx}{S:St}{t p q g E z n:Nat}{f:Nat→List D}(hne:p≠q)(hρ:S.ρ t= .os p g)(hg:S.γ p=g)(hσ:S.σ p= .arr E z n f)(hp:X.xa p=false)(hq:X.xa q=false):
 Wk X S ⟨bM S.ρ t (.os q (S.γ q+1)),bM S.γ q (S.γ q+1),bM (bM S.σ q (.arr E z n f)) p .none⟩:=fun κ sv a w hs=>by
 have hle:Le κ κ S.γ (bM S.γ q (S.γ q+1)) sv (bM sv q (sv p)):=by
  refine⟨fun _ _ _ h=>h,fun s=> ?_,fun s h=> ?_⟩
  ·by_cases e:s=q
   ·subst e;rw[aj];omega
   ·rw[bg _ _ _ _ e];exact Nat.le_refl _
  ·by_cases e:s=q
   ·subst e;rw[aj]at h;omega
   ·rw[bg _ _ _ _ e]
 have hb:X.base q=X.base p:=by unfold Ctx.base;rw[hp,hq]
 have key:∀s b,cw ((bM (bM S.σ q (.arr E z n f)) p .none) s) ((bM sv q (sv p)) s)=some b→∃s0,cw (S.σ s0) (sv s0)=some b∧(s=q∧s0=p∨s≠q∧s≠p∧s0=s):=fun s b h=>by
  by_cases e:s=p
  ·subst e;rw[aj]at h;cases h
  ·rw[bg _ _ _ _ e]at h
   by_cases e2:s=q
   ·subst e2;rw[aj,aj]at h
    exact⟨p,by rw[hσ];exact h, .inl ⟨rfl,rfl⟩⟩
   ·rw[bg _ _ _ _ e2,bg _ _ _ _ e2]at h
    exact⟨s,h, .inr ⟨e2,e,rfl⟩⟩
 refine⟨κ,bM sv q (sv p),hs.size,hs.defers,fun j hj=> ?_, ?_⟩
 ·by_cases e:j=t
  ·subst e
   have:=hs.slot j hj
   rw[hρ]at this
   show cX _ _ _ (bM S.ρ j (.os q (S.γ q+1)) j) _
   rw[aj]
   cases this with
   |os _ _ _ a b c=>exact .os _ _ _ (Nat.le_of_eq (aj _ _ _).symm) (fun _=>by rw[aj];exact b hg.symm) c
  ·show cX _ _ _ (bM S.ρ t (.os q (S.γ q+1)) j) _
   rw[bg _ _ _ _ e]
   exact(hs.slot j hj).mono hle
 ·obtain⟨h1,h2,h3,h4,h5,h6,h7,h8,h9,h10,h11,h12,h13,h14⟩:=hs.wld
  refine⟨h1,fun s=> ?_,fun s t b hs1 ht1=> ?_,fun s b o h=> ?_,fun s b h=> ?_, ?_,fun g l hl=> ?_,h8,fun b hb1=> ?_,h10,h11.trans hle,h12,fun s b h=> ?_,h14⟩
  ·show iC _ _ _ _ _ _ (bM (bM S.σ q (.arr E z n f)) p .none s)
   by_cases e:s=p
   ·subst e;rw[aj];trivial
   ·rw[bg _ _ _ _ e]
    by_cases e2:s=q
    ·subst e2
     rw[aj,hb]
     have:=h2 p
     rw[hσ]at this
     obtain⟨xs,o1,o2,o3,o4⟩:=this
     exact⟨xs,by rw[aj];exact o1,o2,o3,fun i hi=>(o4 i hi).mono hle⟩
    ·rw[bg _ _ _ _ e2]
     have:=h2 s
     cases ho:S.σ s with
     |none=>trivial
     |box l=>
      rw[ho]at this
      obtain⟨b,T,cs,o1,o2,o3,o4⟩:=this
      exact⟨b,T,cs,by rw[bg _ _ _ _ e2];exact o1,o2,o3.mono hle,o4⟩
     |arr E2 z2 n2 f2=>
      rw[ho]at this
      obtain⟨xs,o1,o2,o3,o4⟩:=this
      exact⟨xs,by rw[bg _ _ _ _ e2];exact o1,o2,o3,fun i hi=>(o4 i hi).mono hle⟩
     |mp l=>
      rw[ho]at this
      obtain⟨b,es,c,o1,o2,o3⟩:=this
      exact⟨b,es,c,by rw[bg _ _ _ _ e2];exact o1,o2,o3⟩
  ·obtain⟨s0,k1,k2⟩:=key s b hs1
   obtain⟨t0,k3,k4⟩:=key t b ht1
   have e:=h3 s0 t0 b k1 k3
   omega
  ·obtain⟨s0,k1,_⟩:=key s b h;exact h4 s0 b o k1
  ·obtain⟨s0,k1,_⟩:=key s b h;exact h5 s0 b k1
  ·obtain⟨M,m1,m2⟩:=h6
   exact⟨M,m1,fun s b h=>by obtain⟨s0,k1,_⟩:=key s b h;exact m2 s0 b k1⟩
  ·obtain⟨u1,u,u2,u3⟩:=h7 g l hl
   exact⟨u1,u,u2.mono hle,u3⟩
  ·obtain⟨p1,p2⟩:=h9 b hb1
   by_cases e:0=q
   ·subst e;show 1≤bM S.γ 0 (S.γ 0+1) 0∧(bM S.γ 0 (S.γ 0+1) 0=1→_)
    rw[aj];exact⟨by omega,fun h=>by omega⟩
   ·show 1≤bM S.γ q (S.γ q+1) 0∧(bM S.γ q (S.γ q+1) 0=1→bM sv q (sv p) 0=_)
    rw[bg _ _ _ _ e,bg _ _ _ _ e];exact⟨p1,p2⟩
  ·obtain⟨s0,k1,_⟩:=key s b h;exact h13 s0 b k1
end Go.Ab
namespace Go.Ab
open Go Go.RowKit
set_option linter.all false
structure Span where
 Lo:Int
 Hi:Int
 deriving DecidableEq
def iz:Span:=⟨0,0⟩
instance:Inhabited Span:=⟨iz⟩
structure Hold where
 At:Int
 Until:Int
 deriving DecidableEq
def dv:Hold:=⟨0,0⟩
instance:Inhabited Hold:=⟨dv⟩
structure Truck where
 Way:Int
 Start:Int
 Pace:Span
 Holds:List Hold
 deriving DecidableEq
def ax:Truck:=⟨0,0,iz,[]⟩
instance:Inhabited Truck:=⟨ax⟩
structure Convoy where
 Length:Int
 Gap:Int
 Fails:Int
 Trucks:List Truck
 deriving DecidableEq
def gQ:Convoy:=⟨0,0,0,[]⟩
instance:Inhabited Convoy:=⟨gQ⟩
structure bj where
 Minute:Int
 First:Int
 Second:Int
 FirstFails:Bool
 SecondFails:Bool
 At:Int
 Other:Int
 deriving DecidableEq
def ux:bj:=⟨0,0,0,false,false,0,0⟩
instance:Inhabited bj:=⟨ux⟩
structure cF where
 Truck:Truck
 length:Int
 deriving DecidableEq
def v7:cF:=⟨ax,0⟩
instance:Inhabited cF:=⟨v7⟩
structure bQ where
 ride:cF
 gone:List Span
 deriving DecidableEq
def pw:bQ:=⟨v7,[]⟩
instance:Inhabited bQ:=⟨pw⟩
structure br where
 a:bQ
 b:bQ
 deriving DecidableEq
def gm:br:=⟨pw,pw⟩
instance:Inhabited br:=⟨gm⟩
structure bE where
 gap:Int
 fails:Int
 deriving DecidableEq
def qW:bE:=⟨0,0⟩
instance:Inhabited bE:=⟨qW⟩
structure nB where
 a:Int
 b:Int
 deriving DecidableEq
def CE:nB:=⟨0,0⟩
instance:Inhabited nB:=⟨CE⟩
structure aK where
 word:Int
 deriving DecidableEq
def Dh:aK:=⟨0⟩
instance:Inhabited aK:=⟨Dh⟩
structure na where
 a:List Span
 b:List Span
 deriving DecidableEq
def Cu:na:=⟨[],[]⟩
instance:Inhabited na:=⟨Cu⟩
inductive T where
 |int (k:IntKind)|bool|str|sl (t:T)|ptr (t:T)|clo (f:FuncId) (t:T)|clo0 (f:FuncId)|clo2 (f:FuncId) (t u:T)|clo3 (f:FuncId) (t u v:T)|mfn (f:FuncId) (t:T)
 |Span|Hold|Truck|Convoy|bj|cF|bQ|br|bE|nB|aK|na
 deriving DecidableEq
@[reducible] def den:T→Type
  | .int _=>Int
  | .bool=>Bool
  | .str=>ByteArray
  | .sl t=>List (den t)
  | .ptr t=>den t
  | .clo _ t=>den t
  | .clo0 _=>Unit
  | .clo2 _ t u=>den t×den u
  | .clo3 _ t u v=>den t×den u×den v
  | .mfn _ t=>den t
  | .Span=>Span
  | .Hold=>Hold
  | .Truck=>Truck
  | .Convoy=>Convoy
  | .bj=>bj
  | .cF=>cF
  | .bQ=>bQ
  | .br=>br
  | .bE=>bE
  | .nB=>nB
  | .aK=>aK
  | .na=>na
def sz:T→Nat
 | .Span=>2
 | .Hold=>2
 | .Truck=>5
 | .Convoy=>4
 | .bj=>7
 | .cF=>6
 | .bQ=>7
 | .br=>14
 | .bE=>2
 | .nB=>2
 | .aK=>1
 | .na=>2
 |_=>1
def dD:(t:T)→den t
 | .int _=>(0:Int)
 | .bool=>false
 | .str=>(⟨#[]⟩:ByteArray)
 | .sl t=>([]:List (den t))
 | .ptr t=>dD t
 | .clo _ t=>dD t
 | .clo0 _=>()
 | .clo2 _ t u=>(dD t,dD u)
 | .clo3 _ t u v=>(dD t,dD u,dD v)
 | .mfn _ t=>dD t
 | .Span=>iz
 | .Hold=>dv
 | .Truck=>ax
 | .Convoy=>gQ
 | .bj=>ux
 | .cF=>v7
 | .bQ=>pw
 | .br=>gm
 | .bE=>qW
 | .nB=>CE
 | .aK=>Dh
 | .na=>Cu
inductive I where
 |int (k:IntKind) (n:Int)
 |bool (b:Bool)
 |str (s:ByteArray)
 |agg (l:List I)
 |tup (l:List I)
 |sl (t:T) (l:List (den t))
 |nsl (t:T) (l:List (den t))
 |nil
 |rp (l:List I) (o:Nat)
 |bx (s g o:Nat)
 |os (s g:Nat)
 |op (s g z i o:Nat)
 |ow (s g z a m:Nat)
 |fn (f:FuncId) (c:List I)
 |yl (l:Nat)
 |mf (f:FuncId) (c:List I)
 |one
 |undef
instance:Inhabited I:=⟨.undef⟩
def tI(k:IntKind):List I→Option (Int×List I)
 | .int k' n::r=>if k' =k then some (n,r)else none
 |_=>none
def tB:List I→Option (Bool×List I)
 | .bool b::r=>some (b,r)
 |_=>none
def tS:List I→Option (ByteArray×List I)
 | .str b::r=>some (b,r)
 |_=>none
def uS(t t' :T)(l:List (den t')):Option (List (den t)):=if h:t' =t then some (h▸l)else none
def tL(t:T):List I→Option (List (den t)×List I)
 | .sl t' l::r=>match uS t t' l with|some l=>some (l,r)|none=>none
 | .nsl t' l::r=>match uS t t' l with|some l=>some (l,r)|none=>none
 | .nil::r=>some ([],r)
 |_=>none
def tE{α:Type}:List I→α→Option α
 |[],a=>some a
 |_,_=>none
def jx:List I→Bool
 |[]=>true
 | .nil::_=>false
 | .nsl _ _::_=>false
 |_::l=>jx l
def tP{α:Type}(dec:List I→Option α):List I→Option α
 | .rp l o::r=>(match r with|[]=>bif jx l&&Nat.beq o 0 then dec l else none|_=>none)
 |_=>none
def tC{α:Type}(f:FuncId)(dec:List I→Option α):List I→Option α
 | .fn g c::r=>(match r with|[]=>bif Nat.beq g f then tP dec c else none|_=>none)
 |_=>none
def QR(f:FuncId):List I→Option Unit
 | .fn g c::r=>(match r with|[]=>bif Nat.beq g f then(match c with|[]=>some ()|_=>none)else none|_=>none)
 |_=>none
def QM{α β:Type}(f:FuncId)(da:List I→Option α)(db:List I→Option β):List I→Option (α×β)
 | .fn g c::r=>(match r with|[]=>bif Nat.beq g f then(match c with|x::ys=>(tP da [x]).bind fun a=>(tP db ys).bind fun b=>some (a,b)|_=>none)else none|_=>none)
 |_=>none
def QS{α β γ:Type}(f:FuncId)(da:List I→Option α)(db:List I→Option β)(dc:List I→Option γ):List I→Option (α×β×γ)
 | .fn g c::r=>(match r with|[]=>bif Nat.beq g f then(match c with|x::y::ys=>(tP da [x]).bind fun a=>(tP db [y]).bind fun b=>(tP dc ys).bind fun d=>some (a,b,d)|_=>none)else none|_=>none)
 |_=>none
def tM{α:Type}(f:FuncId)(dec:List I→Option α):List I→Option α
 | .mf g c::r=>(match r with|[]=>bif Nat.beq g f then(match c with|[.agg l]=>bif jx l then dec l else none|_=>none)else none|_=>none)
 |_=>none
@[reducible] def S5 (t:T) (l:List (den t)):List I:=[.sl t l]
def bC(x:Span):List I:=[.int .i64 x.Lo, .int .i64 x.Hi]
def AX(r:List I):Option Span:=(tI .i64 r).bind fun p0=>(tI .i64 p0.2).bind fun p1=>tE p1.2 ⟨p0.1,p1.1⟩
def fY(x:Hold):List I:=[.int .i64 x.At, .int .i64 x.Until]
def z9(r:List I):Option Hold:=(tI .i64 r).bind fun p0=>(tI .i64 p0.2).bind fun p1=>tE p1.2 ⟨p0.1,p1.1⟩
def bA(x:Truck):List I:=[.int .i64 x.Way, .int .i64 x.Start, .int .i64 x.Pace.Lo, .int .i64 x.Pace.Hi, .sl .Hold x.Holds]
def wy(r:List I):Option Truck:=(tI .i64 r).bind fun p0=>(tI .i64 p0.2).bind fun p1=>(tI .i64 p1.2).bind fun p2=>(tI .i64 p2.2).bind fun p3=>(tL .Hold p3.2).bind fun p4=>tE p4.2 ⟨p0.1,p1.1,⟨p2.1,p3.1⟩,p4.1⟩
def aL(x:Convoy):List I:=[.int .i64 x.Length, .int .i64 x.Gap, .int .i64 x.Fails, .sl .Truck x.Trucks]
def sU(r:List I):Option Convoy:=(tI .i64 r).bind fun p0=>(tI .i64 p0.2).bind fun p1=>(tI .i64 p1.2).bind fun p2=>(tL .Truck p2.2).bind fun p3=>tE p3.2 ⟨p0.1,p1.1,p2.1,p3.1⟩
def cI(x:bj):List I:=[.int .i64 x.Minute, .int .i64 x.First, .int .i64 x.Second, .bool x.FirstFails, .bool x.SecondFails, .int .i64 x.At, .int .i64 x.Other]
def qJ(r:List I):Option bj:=(tI .i64 r).bind fun p0=>(tI .i64 p0.2).bind fun p1=>(tI .i64 p1.2).bind fun p2=>(tB p2.2).bind fun p3=>(tB p3.2).bind fun p4=>(tI .i64 p4.2).bind fun p5=>(tI .i64 p5.2).bind fun p6=>tE p6.2 ⟨p0.1,p1.1,p2.1,p3.1,p4.1,p5.1,p6.1⟩
def fy(x:cF):List I:=[.int .i64 x.Truck.Way, .int .i64 x.Truck.Start, .int .i64 x.Truck.Pace.Lo, .int .i64 x.Truck.Pace.Hi, .sl .Hold x.Truck.Holds, .int .i64 x.length]
def AD(r:List I):Option cF:=(tI .i64 r).bind fun p0=>(tI .i64 p0.2).bind fun p1=>(tI .i64 p1.2).bind fun p2=>(tI .i64 p2.2).bind fun p3=>(tL .Hold p3.2).bind fun p4=>(tI .i64 p4.2).bind fun p5=>tE p5.2 ⟨⟨p0.1,p1.1,⟨p2.1,p3.1⟩,p4.1⟩,p5.1⟩
def dj(x:bQ):List I:=[.int .i64 x.ride.Truck.Way, .int .i64 x.ride.Truck.Start, .int .i64 x.ride.Truck.Pace.Lo, .int .i64 x.ride.Truck.Pace.Hi, .sl .Hold x.ride.Truck.Holds, .int .i64 x.ride.length, .sl .Span x.gone]
def vK(r:List I):Option bQ:=(tI .i64 r).bind fun p0=>(tI .i64 p0.2).bind fun p1=>(tI .i64 p1.2).bind fun p2=>(tI .i64 p2.2).bind fun p3=>(tL .Hold p3.2).bind fun p4=>(tI .i64 p4.2).bind fun p5=>(tL .Span p5.2).bind fun p6=>tE p6.2 ⟨⟨⟨p0.1,p1.1,⟨p2.1,p3.1⟩,p4.1⟩,p5.1⟩,p6.1⟩
def gC(x:br):List I:=[.int .i64 x.a.ride.Truck.Way, .int .i64 x.a.ride.Truck.Start, .int .i64 x.a.ride.Truck.Pace.Lo, .int .i64 x.a.ride.Truck.Pace.Hi, .sl .Hold x.a.ride.Truck.Holds, .int .i64 x.a.ride.length, .sl .Span x.a.gone, .int .i64 x.b.ride.Truck.Way, .int .i64 x.b.ride.Truck.Start, .int .i64 x.b.ride.Truck.Pace.Lo, .int .i64 x.b.ride.Truck.Pace.Hi, .sl .Hold x.b.ride.Truck.Holds, .int .i64 x.b.ride.length, .sl .Span x.b.gone]
def wV(r:List I):Option br:=(tI .i64 r).bind fun p0=>(tI .i64 p0.2).bind fun p1=>(tI .i64 p1.2).bind fun p2=>(tI .i64 p2.2).bind fun p3=>(tL .Hold p3.2).bind fun p4=>(tI .i64 p4.2).bind fun p5=>(tL .Span p5.2).bind fun p6=>(tI .i64 p6.2).bind fun p7=>(tI .i64 p7.2).bind fun p8=>(tI .i64 p8.2).bind fun p9=>(tI .i64 p9.2).bind fun p10=>(tL .Hold p10.2).bind fun p11=>(tI .i64 p11.2).bind fun p12=>(tL .Span p12.2).bind fun p13=>tE p13.2 ⟨⟨⟨⟨p0.1,p1.1,⟨p2.1,p3.1⟩,p4.1⟩,p5.1⟩,p6.1⟩,⟨⟨⟨p7.1,p8.1,⟨p9.1,p10.1⟩,p11.1⟩,p12.1⟩,p13.1⟩⟩
def ug(x:bE):List I:=[.int .i64 x.gap, .int .i64 x.fails]
def nF(r:List I):Option bE:=(tI .i64 r).bind fun p0=>(tI .i64 p0.2).bind fun p1=>tE p1.2 ⟨p0.1,p1.1⟩
def Gs(x:nB):List I:=[.int .i64 x.a, .int .i64 x.b]
def A8(r:List I):Option nB:=(tI .i64 r).bind fun p0=>(tI .i64 p0.2).bind fun p1=>tE p1.2 ⟨p0.1,p1.1⟩
def EV(x:aK):List I:=[.int .u64 x.word]
def Ah(r:List I):Option aK:=(tI .u64 r).bind fun p0=>tE p0.2 ⟨p0.1⟩
def FK(x:na):List I:=[.sl .Span x.a, .sl .Span x.b]
def zU(r:List I):Option na:=(tL .Span r).bind fun p0=>(tL .Span p0.2).bind fun p1=>tE p1.2 ⟨p0.1,p1.1⟩
def bO:(t:T)→den t→List I
 | .int k,x=>[.int k x]
 | .bool,x=>[.bool x]
 | .str,x=>[.str x]
 | .sl t,x=>[.sl t x]
 | .ptr t,x=>[.rp (bO t x) 0]
 | .clo f t,x=>[.fn f [.rp (bO t x) 0]]
 | .clo0 f,_=>[.fn f []]
 | .clo2 f t u,x=>[.fn f [.rp (bO t x.1) 0, .rp (bO u x.2) 0]]
 | .clo3 f t u v,x=>[.fn f [.rp (bO t x.1) 0, .rp (bO u x.2.1) 0, .rp (bO v x.2.2) 0]]
 | .mfn f t,x=>[.mf f [.agg (bO t x)]]
 | .Span,x=>bC x
 | .Hold,x=>fY x
 | .Truck,x=>bA x
 | .Convoy,x=>aL x
 | .bj,x=>cI x
 | .cF,x=>fy x
 | .bQ,x=>dj x
 | .br,x=>gC x
 | .bE,x=>ug x
 | .nB,x=>Gs x
 | .aK,x=>EV x
 | .na,x=>FK x
def fM:(t:T)→List I→Option (den t)
 | .int k,r=>(tI k r).bind fun p=>tE p.2 p.1
 | .bool,r=>(tB r).bind fun p=>tE p.2 p.1
 | .str,r=>(tS r).bind fun p=>tE p.2 p.1
 | .sl t,r=>(tL t r).bind fun p=>tE p.2 p.1
 | .ptr t,r=>tP (fM t) r
 | .clo f t,r=>tC f (fM t) r
 | .clo0 f,r=>QR f r
 | .clo2 f t u,r=>QM f (fM t) (fM u) r
 | .clo3 f t u v,r=>QS f (fM t) (fM u) (fM v) r
 | .mfn f t,r=>tM f (fM t) r
 | .Span,r=>AX r
 | .Hold,r=>z9 r
 | .Truck,r=>wy r
 | .Convoy,r=>sU r
 | .bj,r=>qJ r
 | .cF,r=>AD r
 | .bQ,r=>vK r
 | .br,r=>wV r
 | .bE,r=>nF r
 | .nB,r=>A8 r
 | .aK,r=>Ah r
 | .na,r=>zU r
def kC(x:Span):List D:=[.int .i64 x.Lo, .int .i64 x.Hi]
def jt(x:Hold):List D:=[.int .i64 x.At, .int .i64 x.Until]
def kf(x:Truck):List D:=[.int .i64 x.Way, .int .i64 x.Start, .int .i64 x.Pace.Lo, .int .i64 x.Pace.Hi, .sl 2 x.Holds.length (fun i=>jt (x.Holds.getD i dv))]
def mP(x:Convoy):List D:=[.int .i64 x.Length, .int .i64 x.Gap, .int .i64 x.Fails, .sl 5 x.Trucks.length (fun i=>kf (x.Trucks.getD i ax))]
def uj(x:bj):List D:=[.int .i64 x.Minute, .int .i64 x.First, .int .i64 x.Second, .bool x.FirstFails, .bool x.SecondFails, .int .i64 x.At, .int .i64 x.Other]
def Cr(x:cF):List D:=[.int .i64 x.Truck.Way, .int .i64 x.Truck.Start, .int .i64 x.Truck.Pace.Lo, .int .i64 x.Truck.Pace.Hi, .sl 2 x.Truck.Holds.length (fun i=>jt (x.Truck.Holds.getD i dv)), .int .i64 x.length]
def zK(x:bQ):List D:=[.int .i64 x.ride.Truck.Way, .int .i64 x.ride.Truck.Start, .int .i64 x.ride.Truck.Pace.Lo, .int .i64 x.ride.Truck.Pace.Hi, .sl 2 x.ride.Truck.Holds.length (fun i=>jt (x.ride.Truck.Holds.getD i dv)), .int .i64 x.ride.length, .sl 2 x.gone.length (fun i=>kC (x.gone.getD i iz))]
def yT(x:br):List D:=[.int .i64 x.a.ride.Truck.Way, .int .i64 x.a.ride.Truck.Start, .int .i64 x.a.ride.Truck.Pace.Lo, .int .i64 x.a.ride.Truck.Pace.Hi, .sl 2 x.a.ride.Truck.Holds.length (fun i=>jt (x.a.ride.Truck.Holds.getD i dv)), .int .i64 x.a.ride.length, .sl 2 x.a.gone.length (fun i=>kC (x.a.gone.getD i iz)), .int .i64 x.b.ride.Truck.Way, .int .i64 x.b.ride.Truck.Start, .int .i64 x.b.ride.Truck.Pace.Lo, .int .i64 x.b.ride.Truck.Pace.Hi, .sl 2 x.b.ride.Truck.Holds.length (fun i=>jt (x.b.ride.Truck.Holds.getD i dv)), .int .i64 x.b.ride.length, .sl 2 x.b.gone.length (fun i=>kC (x.b.gone.getD i iz))]
def qX(x:bE):List D:=[.int .i64 x.gap, .int .i64 x.fails]
def CN(x:nB):List D:=[.int .i64 x.a, .int .i64 x.b]
def De(x:aK):List D:=[.int .u64 x.word]
def Bk(x:na):List D:=[.sl 2 x.a.length (fun i=>kC (x.a.getD i iz)), .sl 2 x.b.length (fun i=>kC (x.b.getD i iz))]
def dk:(t:T)→den t→List D
 | .int k,x=>[.int k x]
 | .bool,x=>[.bool x]
 | .str,x=>[.str x]
 | .sl t,x=>[.sl (sz t) x.length (fun i=>dk t (x.getD i (dD t)))]
 | .ptr t,x=>[.rp (dk t x) 0]
 | .clo f t,x=>[.fn f [.rp (dk t x) 0]]
 | .clo0 f,_=>[.fn f []]
 | .clo2 f t u,x=>[.fn f [.rp (dk t x.1) 0, .rp (dk u x.2) 0]]
 | .clo3 f t u v,x=>[.fn f [.rp (dk t x.1) 0, .rp (dk u x.2.1) 0, .rp (dk v x.2.2) 0]]
 | .mfn f t,x=>[.mf f [.agg (dk t x)]]
 | .Span,x=>kC x
 | .Hold,x=>jt x
 | .Truck,x=>kf x
 | .Convoy,x=>mP x
 | .bj,x=>uj x
 | .cF,x=>Cr x
 | .bQ,x=>zK x
 | .br,x=>yT x
 | .bE,x=>qX x
 | .nB,x=>CN x
 | .aK,x=>De x
 | .na,x=>Bk x
def Kn(t:T)(l:List (den t)):D:= .sl (sz t) l.length (fun i=>dk t (l.getD i (dD t)))
def O5(t:T)(l:List (den t)):D:=match l with|[]=> .nil|_::_=>Kn t l
def oN:T→Bool
 | .int _| .bool| .str| .sl _| .ptr _| .clo _ _| .clo0 _| .clo2 _ _ _| .clo3 _ _ _ _| .mfn _ _=>false
 |_=>true
theorem mF:∀(t:T) (x:den t),aU (dk t x)=true:=by intro t x;cases t<;>rfl
inductive H9:I→I→Prop
 |same (d:I):H9 d d
 |nil (t:T):H9 .nil (.sl t [])
 |nsl (t:T) (l:List (den t)):H9 (.nsl t l) (.sl t l)
inductive dE:List I→List I→Prop
 |nil:dE [] []
 |cons {d d' :I} {l l' :List I}:H9 d d'→dE l l'→dE (d::l) (d' ::l')
theorem bU{k:IntKind}{α:Type}{r:List I}{f:Int×List I→Option α}{x:α}(h:(tI k r).bind f=some x):∃n r',r= .int k n::r'∧f (n,r')=some x:=by
 cases r with
 |nil=>cases h
 |cons d r=>
  cases d<;>try (cases h;done)
  rename_i k' n
  simp only[tI]at h
  split at h
  ·rename_i e;subst e;exact⟨n,r,rfl,h⟩
  ·cases h
theorem AZ{α:Type}{r:List I}{f:Bool×List I→Option α}{x:α}(h:(tB r).bind f=some x):∃n r',r= .bool n::r'∧f (n,r')=some x:=by
 cases r with
 |nil=>cases h
 |cons d r=>cases d<;>first|(cases h;done)|exact⟨_,_,rfl,h⟩
theorem Lh{α:Type}{r:List I}{f:ByteArray×List I→Option α}{x:α}(h:(tS r).bind f=some x):∃n r',r= .str n::r'∧f (n,r')=some x:=by
 cases r with
 |nil=>cases h
 |cons d r=>cases d<;>first|(cases h;done)|exact⟨_,_,rfl,h⟩
theorem lD{t t' :T}{l:List (den t')}{m:List (den t)}(h:uS t t' l=some m):(I.sl t' l)= .sl t m:=by
 unfold uS at h
 split at h
 ·rename_i e;subst e;simp only[Option.some.injEq]at h;subst h;rfl
 ·cases h
theorem gP{t:T}{α:Type}{r:List I}{f:List (den t)×List I→Option α}{x:α}(h:(tL t r).bind f=some x):∃d l r',r=d::r'∧H9 d (.sl t l)∧f (l,r')=some x:=by
 cases r with
 |nil=>cases h
 |cons d r=>
  cases d<;>try (cases h;done)
  ·rename_i t' l
   simp only[tL]at h
   cases ha:uS t t' l with
   |none=>rw[ha]at h;cases h
   |some m=>rw[ha]at h;exact⟨_,m,r,rfl,by rw[lD ha];exact .same _,h⟩
  ·rename_i t' l
   simp only[tL]at h
   cases ha:uS t t' l with
   |none=>rw[ha]at h;cases h
   |some m=>
    rw[ha]at h
    have e:=lD ha
    simp only[I.sl.injEq]at e
    obtain⟨rfl,e⟩:=e
    have e:=eq_of_heq e
    subst e
    exact⟨_,_,r,rfl, .nsl _ _,h⟩
  ·exact⟨_,[],r,rfl, .nil t,h⟩
theorem jH:∀{l m:List I},dE l m→jx l=true→l=m
 |_,_, .nil,_=>rfl
 |_,_, .cons (d:=d) (l:=l) h1 h2,hn=>by
  cases h1 with
  |same=>
   have:jx l=true:=by cases d<;>first|exact hn|exact absurd hn (by simp[jx])
   rw[jH h2 this]
  |nil=>cases hn
  |nsl=>cases hn
theorem uh{α:Type}{dec:List I→Option α}{enc:α→List I}(hd:∀{r x},dec r=some x→dE r (enc x)){r:List I}{x:α}(h:tP dec r=some x):r=[.rp (enc x) 0]:=by
 unfold tP at h
 split at h
 ·rename_i l o r'
  split at h
  ·cases hc:jx l&&Nat.beq o 0 with
   |false=>rw[hc]at h;cases h
   |true=>
    rw[hc]at h
    simp only[Bool.and_eq_true]at hc
    rw[jH (hd h) hc.1,Nat.eq_of_beq_eq_true hc.2]
  ·cases h
 ·cases h
theorem Pc{α:Type}{f:FuncId}{dec:List I→Option α}{enc:α→List I}(hd:∀{r x},dec r=some x→dE r (enc x)){r:List I}{x:α}(h:tC f dec r=some x):r=[.fn f [.rp (enc x) 0]]:=by
 unfold tC at h
 split at h
 ·rename_i g c r'
  split at h
  ·cases hc:Nat.beq g f with
   |false=>rw[hc]at h;cases h
   |true=>
    rw[hc]at h
    rw[uh hd h,Nat.eq_of_beq_eq_true hc]
  ·cases h
 ·cases h
theorem Od{f:FuncId}{r:List I}{x:Unit}(h:QR f r=some x):r=[.fn f []]:=by
 unfold QR at h
 split at h
 ·rename_i g c r'
  split at h
  ·cases hc:Nat.beq g f with
   |false=>rw[hc]at h;cases h
   |true=>
    rw[hc]at h
    simp only[cond_true]at h
    split at h
    ·rw[Nat.eq_of_beq_eq_true hc]
    ·cases h
  ·cases h
 ·cases h
theorem MP{α β:Type}{f:FuncId}{da:List I→Option α}{db:List I→Option β}{ea:α→List I}{eb:β→List I}(ha:∀{r x},da r=some x→dE r (ea x))(hb:∀{r x},db r=some x→dE r (eb x)){r:List I}{x:α×β}(h:QM f da db r=some x):r=[.fn f [.rp (ea x.1) 0, .rp (eb x.2) 0]]:=by
 unfold QM at h
 split at h
 ·rename_i g c r'
  split at h
  ·cases hc:Nat.beq g f with
   |false=>rw[hc]at h;cases h
   |true=>
    rw[hc]at h
    simp only[cond_true]at h
    split at h
    ·rename_i y ys
     cases h1:tP da [y]with
     |none=>rw[h1]at h;cases h
     |some a=>
      rw[h1]at h
      simp only[Option.bind_some]at h
      cases h2:tP db ys with
      |none=>rw[h2]at h;cases h
      |some b=>
       rw[h2]at h
       simp only[Option.bind_some,Option.some.injEq]at h
       subst h
       have e1:=uh ha h1
       have e2:=uh hb h2
       simp only[List.cons.injEq,and_true]at e1
       rw[Nat.eq_of_beq_eq_true hc,e1,e2]
    ·cases h
  ·cases h
 ·cases h
theorem NQ{α β γ:Type}{f:FuncId}{da:List I→Option α}{db:List I→Option β}{dc:List I→Option γ}{ea:α→List I}{eb:β→List I}{ec:γ→List I}(ha:∀{r x},da r=some x→dE r (ea x))(hb:∀{r x},db r=some x→dE r (eb x))(hc' :∀{r x},dc r=some x→dE r (ec x)){r:List I}{x:α×β×γ}(h:QS f da db dc r=some x):r=[.fn f [.rp (ea x.1) 0, .rp (eb x.2.1) 0, .rp (ec x.2.2) 0]]:=by
 unfold QS at h
 split at h
 ·rename_i g c r'
  split at h
  ·cases hc:Nat.beq g f with
   |false=>rw[hc]at h;cases h
   |true=>
    rw[hc]at h
    simp only[cond_true]at h
    split at h
    ·rename_i y y2 ys
     cases h1:tP da [y]with
     |none=>rw[h1]at h;cases h
     |some a=>
      rw[h1]at h
      simp only[Option.bind_some]at h
      cases h2:tP db [y2]with
      |none=>rw[h2]at h;cases h
      |some b=>
       rw[h2]at h
       simp only[Option.bind_some]at h
       cases h3:tP dc ys with
       |none=>rw[h3]at h;cases h
       |some d=>
        rw[h3]at h
        simp only[Option.bind_some,Option.some.injEq]at h
        subst h
        have e1:=uh ha h1
        have e2:=uh hb h2
        have e3:=uh hc' h3
        simp only[List.cons.injEq,and_true]at e1 e2
        rw[Nat.eq_of_beq_eq_true hc,e1,e2,e3]
    ·cases h
  ·cases h
 ·cases h
theorem Pt{α:Type}{f:FuncId}{dec:List I→Option α}{enc:α→List I}(hd:∀{r x},dec r=some x→dE r (enc x)){r:List I}{x:α}(h:tM f dec r=some x):r=[.mf f [.agg (enc x)]]:=by
 unfold tM at h
 split at h
 ·rename_i g c r'
  split at h
  ·cases hc:Nat.beq g f with
   |false=>rw[hc]at h;cases h
   |true=>
    rw[hc]at h
    simp only[cond_true]at h
    split at h
    ·rename_i l
     cases hn:jx l with
     |false=>rw[hn]at h;cases h
     |true=>
      rw[hn]at h
      rw[Nat.eq_of_beq_eq_true hc,jH (hd h) hn]
    ·cases h
  ·cases h
 ·cases h
theorem jR{α:Type}{r:List I}{a x:α}(h:tE r a=some x):r=[]∧a=x:=by
 cases r with
 |nil=>exact⟨rfl,by simpa[tE]using h⟩
 |cons=>cases h
theorem Dw{r:List I}{x:Span}(h:AX r=some x):dE r (bC x):=by
 have h0:=h;unfold AX at h0;clear h
 obtain⟨n0,r0,q0,h1⟩:=bU h0
 replace q0:r=_:=q0;subst q0
 obtain⟨n1,r1,q1,h2⟩:=bU h1
 replace q1:r0=_:=q1;subst q1
 obtain⟨qe,qx⟩:=jR h2
 replace qe:r1=[]:=qe;subst qe;subst qx
 exact .cons (.same _) (.cons (.same _) (dE.nil))
theorem Dy{r:List I}{x:Hold}(h:z9 r=some x):dE r (fY x):=by
 have h0:=h;unfold z9 at h0;clear h
 obtain⟨n0,r0,q0,h1⟩:=bU h0
 replace q0:r=_:=q0;subst q0
 obtain⟨n1,r1,q1,h2⟩:=bU h1
 replace q1:r0=_:=q1;subst q1
 obtain⟨qe,qx⟩:=jR h2
 replace qe:r1=[]:=qe;subst qe;subst qx
 exact .cons (.same _) (.cons (.same _) (dE.nil))
theorem BT{r:List I}{x:Truck}(h:wy r=some x):dE r (bA x):=by
 have h0:=h;unfold wy at h0;clear h
 obtain⟨n0,r0,q0,h1⟩:=bU h0
 replace q0:r=_:=q0;subst q0
 obtain⟨n1,r1,q1,h2⟩:=bU h1
 replace q1:r0=_:=q1;subst q1
 obtain⟨n2,r2,q2,h3⟩:=bU h2
 replace q2:r1=_:=q2;subst q2
 obtain⟨n3,r3,q3,h4⟩:=bU h3
 replace q3:r2=_:=q3;subst q3
 obtain⟨d4,l4,r4,q4,e4,h5⟩:=gP h4
 replace q4:r3=_:=q4;subst q4
 obtain⟨qe,qx⟩:=jR h5
 replace qe:r4=[]:=qe;subst qe;subst qx
 exact .cons (.same _) (.cons (.same _) (.cons (.same _) (.cons (.same _) (.cons e4 (dE.nil)))))
theorem An{r:List I}{x:Convoy}(h:sU r=some x):dE r (aL x):=by
 have h0:=h;unfold sU at h0;clear h
 obtain⟨n0,r0,q0,h1⟩:=bU h0
 replace q0:r=_:=q0;subst q0
 obtain⟨n1,r1,q1,h2⟩:=bU h1
 replace q1:r0=_:=q1;subst q1
 obtain⟨n2,r2,q2,h3⟩:=bU h2
 replace q2:r1=_:=q2;subst q2
 obtain⟨d3,l3,r3,q3,e3,h4⟩:=gP h3
 replace q3:r2=_:=q3;subst q3
 obtain⟨qe,qx⟩:=jR h4
 replace qe:r3=[]:=qe;subst qe;subst qx
 exact .cons (.same _) (.cons (.same _) (.cons (.same _) (.cons e3 (dE.nil))))
theorem x6{r:List I}{x:bj}(h:qJ r=some x):dE r (cI x):=by
 have h0:=h;unfold qJ at h0;clear h
 obtain⟨n0,r0,q0,h1⟩:=bU h0
 replace q0:r=_:=q0;subst q0
 obtain⟨n1,r1,q1,h2⟩:=bU h1
 replace q1:r0=_:=q1;subst q1
 obtain⟨n2,r2,q2,h3⟩:=bU h2
 replace q2:r1=_:=q2;subst q2
 obtain⟨n3,r3,q3,h4⟩:=AZ h3
 replace q3:r2=_:=q3;subst q3
 obtain⟨n4,r4,q4,h5⟩:=AZ h4
 replace q4:r3=_:=q4;subst q4
 obtain⟨n5,r5,q5,h6⟩:=bU h5
 replace q5:r4=_:=q5;subst q5
 obtain⟨n6,r6,q6,h7⟩:=bU h6
 replace q6:r5=_:=q6;subst q6
 obtain⟨qe,qx⟩:=jR h7
 replace qe:r6=[]:=qe;subst qe;subst qx
 exact .cons (.same _) (.cons (.same _) (.cons (.same _) (.cons (.same _) (.cons (.same _) (.cons (.same _) (.cons (.same _) (dE.nil)))))))
theorem EA{r:List I}{x:cF}(h:AD r=some x):dE r (fy x):=by
 have h0:=h;unfold AD at h0;clear h
 obtain⟨n0,r0,q0,h1⟩:=bU h0
 replace q0:r=_:=q0;subst q0
 obtain⟨n1,r1,q1,h2⟩:=bU h1
 replace q1:r0=_:=q1;subst q1
 obtain⟨n2,r2,q2,h3⟩:=bU h2
 replace q2:r1=_:=q2;subst q2
 obtain⟨n3,r3,q3,h4⟩:=bU h3
 replace q3:r2=_:=q3;subst q3
 obtain⟨d4,l4,r4,q4,e4,h5⟩:=gP h4
 replace q4:r3=_:=q4;subst q4
 obtain⟨n5,r5,q5,h6⟩:=bU h5
 replace q5:r4=_:=q5;subst q5
 obtain⟨qe,qx⟩:=jR h6
 replace qe:r5=[]:=qe;subst qe;subst qx
 exact .cons (.same _) (.cons (.same _) (.cons (.same _) (.cons (.same _) (.cons e4 (.cons (.same _) (dE.nil))))))
theorem BC{r:List I}{x:bQ}(h:vK r=some x):dE r (dj x):=by
 have h0:=h;unfold vK at h0;clear h
 obtain⟨n0,r0,q0,h1⟩:=bU h0
 replace q0:r=_:=q0;subst q0
 obtain⟨n1,r1,q1,h2⟩:=bU h1
 replace q1:r0=_:=q1;subst q1
 obtain⟨n2,r2,q2,h3⟩:=bU h2
 replace q2:r1=_:=q2;subst q2
 obtain⟨n3,r3,q3,h4⟩:=bU h3
 replace q3:r2=_:=q3;subst q3
 obtain⟨d4,l4,r4,q4,e4,h5⟩:=gP h4
 replace q4:r3=_:=q4;subst q4
 obtain⟨n5,r5,q5,h6⟩:=bU h5
 replace q5:r4=_:=q5;subst q5
 obtain⟨d6,l6,r6,q6,e6,h7⟩:=gP h6
 replace q6:r5=_:=q6;subst q6
 obtain⟨qe,qx⟩:=jR h7
 replace qe:r6=[]:=qe;subst qe;subst qx
 exact .cons (.same _) (.cons (.same _) (.cons (.same _) (.cons (.same _) (.cons e4 (.cons (.same _) (.cons e6 (dE.nil)))))))
theorem BU{r:List I}{x:br}(h:wV r=some x):dE r (gC x):=by
 have h0:=h;unfold wV at h0;clear h
 obtain⟨n0,r0,q0,h1⟩:=bU h0
 replace q0:r=_:=q0;subst q0
 obtain⟨n1,r1,q1,h2⟩:=bU h1
 replace q1:r0=_:=q1;subst q1
 obtain⟨n2,r2,q2,h3⟩:=bU h2
 replace q2:r1=_:=q2;subst q2
 obtain⟨n3,r3,q3,h4⟩:=bU h3
 replace q3:r2=_:=q3;subst q3
 obtain⟨d4,l4,r4,q4,e4,h5⟩:=gP h4
 replace q4:r3=_:=q4;subst q4
 obtain⟨n5,r5,q5,h6⟩:=bU h5
 replace q5:r4=_:=q5;subst q5
 obtain⟨d6,l6,r6,q6,e6,h7⟩:=gP h6
 replace q6:r5=_:=q6;subst q6
 obtain⟨n7,r7,q7,h8⟩:=bU h7
 replace q7:r6=_:=q7;subst q7
 obtain⟨n8,r8,q8,h9⟩:=bU h8
 replace q8:r7=_:=q8;subst q8
 obtain⟨n9,r9,q9,h10⟩:=bU h9
 replace q9:r8=_:=q9;subst q9
 obtain⟨n10,r10,q10,h11⟩:=bU h10
 replace q10:r9=_:=q10;subst q10
 obtain⟨d11,l11,r11,q11,e11,h12⟩:=gP h11
 replace q11:r10=_:=q11;subst q11
 obtain⟨n12,r12,q12,h13⟩:=bU h12
 replace q12:r11=_:=q12;subst q12
 obtain⟨d13,l13,r13,q13,e13,h14⟩:=gP h13
 replace q13:r12=_:=q13;subst q13
 obtain⟨qe,qx⟩:=jR h14
 replace qe:r13=[]:=qe;subst qe;subst qx
 exact .cons (.same _) (.cons (.same _) (.cons (.same _) (.cons (.same _) (.cons e4 (.cons (.same _) (.cons e6 (.cons (.same _) (.cons (.same _) (.cons (.same _) (.cons (.same _) (.cons e11 (.cons (.same _) (.cons e13 (dE.nil))))))))))))))
theorem wU{r:List I}{x:bE}(h:nF r=some x):dE r (ug x):=by
 have h0:=h;unfold nF at h0;clear h
 obtain⟨n0,r0,q0,h1⟩:=bU h0
 replace q0:r=_:=q0;subst q0
 obtain⟨n1,r1,q1,h2⟩:=bU h1
 replace q1:r0=_:=q1;subst q1
 obtain⟨qe,qx⟩:=jR h2
 replace qe:r1=[]:=qe;subst qe;subst qx
 exact .cons (.same _) (.cons (.same _) (dE.nil))
theorem DI{r:List I}{x:nB}(h:A8 r=some x):dE r (Gs x):=by
 have h0:=h;unfold A8 at h0;clear h
 obtain⟨n0,r0,q0,h1⟩:=bU h0
 replace q0:r=_:=q0;subst q0
 obtain⟨n1,r1,q1,h2⟩:=bU h1
 replace q1:r0=_:=q1;subst q1
 obtain⟨qe,qx⟩:=jR h2
 replace qe:r1=[]:=qe;subst qe;subst qx
 exact .cons (.same _) (.cons (.same _) (dE.nil))
theorem DM{r:List I}{x:aK}(h:Ah r=some x):dE r (EV x):=by
 have h0:=h;unfold Ah at h0;clear h
 obtain⟨n0,r0,q0,h1⟩:=bU h0
 replace q0:r=_:=q0;subst q0
 obtain⟨qe,qx⟩:=jR h1
 replace qe:r0=[]:=qe;subst qe;subst qx
 exact .cons (.same _) (dE.nil)
theorem Dv{r:List I}{x:na}(h:zU r=some x):dE r (FK x):=by
 have h0:=h;unfold zU at h0;clear h
 obtain⟨d0,l0,r0,q0,e0,h1⟩:=gP h0
 replace q0:r=_:=q0;subst q0
 obtain⟨d1,l1,r1,q1,e1,h2⟩:=gP h1
 replace q1:r0=_:=q1;subst q1
 obtain⟨qe,qx⟩:=jR h2
 replace qe:r1=[]:=qe;subst qe;subst qx
 exact .cons e0 (.cons e1 (dE.nil))
theorem cL:∀(t:T) {r:List I} {x:den t},fM t r=some x→dE r (bO t x)
 | .int k,r,x,h=>by
   obtain⟨n,r2,q,h2⟩:=bU (show(tI k r).bind _=_ from h)
   obtain⟨qe,qx⟩:=jR h2
   replace qe:r2=[]:=qe
   subst q;subst qe;subst qx;exact .cons (.same _) .nil
 | .bool,r,x,h=>by
   obtain⟨n,r2,q,h2⟩:=AZ (show(tB r).bind _=_ from h)
   obtain⟨qe,qx⟩:=jR h2
   replace qe:r2=[]:=qe
   subst q;subst qe;subst qx;exact .cons (.same _) .nil
 | .str,r,x,h=>by
   obtain⟨n,r2,q,h2⟩:=Lh (show(tS r).bind _=_ from h)
   obtain⟨qe,qx⟩:=jR h2
   replace qe:r2=[]:=qe
   subst q;subst qe;subst qx;exact .cons (.same _) .nil
 | .sl t,r,x,h=>by
   obtain⟨d,l,r2,q,e,h2⟩:=gP (show(tL t r).bind _=_ from h)
   obtain⟨qe,qx⟩:=jR h2
   replace qe:r2=[]:=qe
   subst q;subst qe;subst qx;exact .cons e .nil
 | .ptr t,r,x,h=>by rw[uh (fun h=>cL t h) (show tP (fM t) r=some x from h)];exact .cons (.same _) .nil
 | .clo f t,r,x,h=>by rw[Pc (fun h=>cL t h) (show tC f (fM t) r=some x from h)];exact .cons (.same _) .nil
 | .clo0 f,r,x,h=>by rw[Od (show QR f r=some x from h)];exact .cons (.same _) .nil
 | .clo3 f t u v,r,x,h=>by rw[NQ (fun h=>cL t h) (fun h=>cL u h) (fun h=>cL v h) (show QS f (fM t) (fM u) (fM v) r=some x from h)];exact .cons (.same _) .nil
 | .clo2 f t u,r,x,h=>by rw[MP (fun h=>cL t h) (fun h=>cL u h) (show QM f (fM t) (fM u) r=some x from h)];exact .cons (.same _) .nil
 | .mfn f t,r,x,h=>by rw[Pt (fun h=>cL t h) (show tM f (fM t) r=some x from h)];exact .cons (.same _) .nil
 | .Span,r,x,h=>Dw h
 | .Hold,r,x,h=>Dy h
 | .Truck,r,x,h=>BT h
 | .Convoy,r,x,h=>An h
 | .bj,r,x,h=>x6 h
 | .cF,r,x,h=>EA h
 | .bQ,r,x,h=>BC h
 | .br,r,x,h=>BU h
 | .bE,r,x,h=>wU h
 | .nB,r,x,h=>DI h
 | .aK,r,x,h=>DM h
 | .na,r,x,h=>Dv h
mutual
def I.bV(h:Nat→Nat):I→D
 | .int k n=> .int k n
 | .bool b=> .bool b
 | .str s=> .str s
 | .agg l=> .agg (I.ao h l)
 | .tup l=> .tup (I.ao h l)
 | .sl t l=>Kn t l
 | .nsl t l=>O5 t l
 | .nil=> .nil
 | .rp l o=> .rp (I.ao h l) o
 | .bx s g o=> .bx s (h s+g) o
 | .os s g=> .os s (h s+g)
 | .op s g z i o=> .op s (h s+g) z i o
 | .ow s g z a m=> .ow s (h s+g) z a m
 | .fn f c=> .fn f (I.ao h c)
 | .yl l=> .yl (h l)
 | .mf f c=> .mf f (I.ao h c)
 | .one=> .one
 | .undef=> .undef
def I.ao(h:Nat→Nat):List I→List D
 |[]=>[]
 |d::l=>d.bV h::I.ao h l
end
theorem aT(h:Nat→Nat):∀(t:T) (x:den t),I.ao h (bO t x)=dk t x:=by
 intro t
 induction t with
 |ptr t ih=>intro x;show[D.rp (I.ao h (bO t x)) 0]=_;rw[ih];rfl
 |clo f t ih=>intro x;show[D.fn f [D.rp (I.ao h (bO t x)) 0]]=_;rw[ih];rfl
 |clo3 f t u v ih1 ih2 ih3=>intro x;show[D.fn f [D.rp (I.ao h (bO t x.1)) 0,D.rp (I.ao h (bO u x.2.1)) 0,D.rp (I.ao h (bO v x.2.2)) 0]]=_;rw[ih1,ih2,ih3];rfl
 |clo2 f t u ih1 ih2=>intro x;show[D.fn f [D.rp (I.ao h (bO t x.1)) 0,D.rp (I.ao h (bO u x.2)) 0]]=_;rw[ih1,ih2];rfl
 |mfn f t ih=>intro x;show[D.mf f [D.agg (I.ao h (bO t x))]]=_;rw[ih];rfl
 |_=>intro x;rfl
theorem lZ(x:Span):af (kC x):=af.cons (.int _ _) (af.cons (.int _ _) (af.nil))
theorem mj(x:Hold):af (jt x):=af.cons (.int _ _) (af.cons (.int _ _) (af.nil))
theorem zC(x:Truck):af (kf x):=af.cons (.int _ _) (af.cons (.int _ _) (af.cons (.int _ _) (af.cons (.int _ _) (af.cons (.sl _ _ _ fun i _ d hd=>mj _ d hd) (af.nil)))))
theorem DB(x:Convoy):af (mP x):=af.cons (.int _ _) (af.cons (.int _ _) (af.cons (.int _ _) (af.cons (.sl _ _ _ fun i _ d hd=>zC _ d hd) (af.nil))))
theorem Bu(x:bj):af (uj x):=af.cons (.int _ _) (af.cons (.int _ _) (af.cons (.int _ _) (af.cons (.bool _) (af.cons (.bool _) (af.cons (.int _ _) (af.cons (.int _ _) (af.nil)))))))
theorem JQ(x:cF):af (Cr x):=af.cons (.int _ _) (af.cons (.int _ _) (af.cons (.int _ _) (af.cons (.int _ _) (af.cons (.sl _ _ _ fun i _ d hd=>mj _ d hd) (af.cons (.int _ _) (af.nil))))))
theorem Hs(x:bQ):af (zK x):=af.cons (.int _ _) (af.cons (.int _ _) (af.cons (.int _ _) (af.cons (.int _ _) (af.cons (.sl _ _ _ fun i _ d hd=>mj _ d hd) (af.cons (.int _ _) (af.cons (.sl _ _ _ fun i _ d hd=>lZ _ d hd) (af.nil)))))))
theorem He(x:br):af (yT x):=af.cons (.int _ _) (af.cons (.int _ _) (af.cons (.int _ _) (af.cons (.int _ _) (af.cons (.sl _ _ _ fun i _ d hd=>mj _ d hd) (af.cons (.int _ _) (af.cons (.sl _ _ _ fun i _ d hd=>lZ _ d hd) (af.cons (.int _ _) (af.cons (.int _ _) (af.cons (.int _ _) (af.cons (.int _ _) (af.cons (.sl _ _ _ fun i _ d hd=>mj _ d hd) (af.cons (.int _ _) (af.cons (.sl _ _ _ fun i _ d hd=>lZ _ d hd) (af.nil))))))))))))))
theorem Ai(x:bE):af (qX x):=af.cons (.int _ _) (af.cons (.int _ _) (af.nil))
theorem Jh(x:nB):af (CN x):=af.cons (.int _ _) (af.cons (.int _ _) (af.nil))
theorem I2(x:aK):af (De x):=af.cons (.int _ _) (af.nil)
theorem Io(x:na):af (Bk x):=af.cons (.sl _ _ _ fun i _ d hd=>lZ _ d hd) (af.cons (.sl _ _ _ fun i _ d hd=>lZ _ d hd) (af.nil))
theorem b9:∀(t:T) (x:den t),af (dk t x)
 | .int k,x=>af.cons (.int _ _) af.nil
 | .bool,x=>af.cons (.bool _) af.nil
 | .str,x=>af.cons (.str _) af.nil
 | .sl t,x=>af.cons (.sl _ _ _ fun i _ d hd=>b9 t _ d hd) af.nil
 | .ptr t,x=>af.cons (.rp _ _ (b9 t x)) af.nil
 | .clo f t,x=>af.cons (.fn _ _ (af.cons (.rp _ _ (b9 t x)) af.nil)) af.nil
 | .clo0 f,x=>af.cons (.fn _ _ af.nil) af.nil
 | .clo3 f t u v,x=>af.cons (.fn _ _ (af.cons (.rp _ _ (b9 t x.1)) (af.cons (.rp _ _ (b9 u x.2.1)) (af.cons (.rp _ _ (b9 v x.2.2)) af.nil)))) af.nil
 | .clo2 f t u,x=>af.cons (.fn _ _ (af.cons (.rp _ _ (b9 t x.1)) (af.cons (.rp _ _ (b9 u x.2)) af.nil))) af.nil
 | .mfn f t,x=>af.cons (.mf _ _ (af.cons (.agg _ (b9 t x)) af.nil)) af.nil
 | .Span,x=>lZ x
 | .Hold,x=>mj x
 | .Truck,x=>zC x
 | .Convoy,x=>DB x
 | .bj,x=>Bu x
 | .cF,x=>JQ x
 | .bQ,x=>Hs x
 | .br,x=>He x
 | .bE,x=>Ai x
 | .nB,x=>Jh x
 | .aK,x=>I2 x
 | .na,x=>Io x
end Go.Ab
namespace Go.Ab
open Go Go.RowKit
set_option linter.all false
def XB:Nat:=900000000
def gM(q:Nat→Nat):Nat→Nat→Nat
 |0=>fun _=>0
 |n+1=>fun s=>bif Nat.beq s (q n)then 1 else gM q n s
theorem sN{q:Nat→Nat}:∀{n i:Nat},i<n→gM q n (q i)=1
 |n+1,i,h=>by
  simp only[gM]
  cases hb:Nat.beq (q i) (q n)with
  |true=>rfl
  |false=>
   have hne:i≠n:=fun e=>by rw[e,Nat.beq_refl]at hb;cases hb
   exact sN (by omega)
def AB(q:Nat→Nat)(os:Nat→Own):Nat→Nat→Own
 |0=>fun _=> .none
 |n+1=>fun s=>bif Nat.beq s (q n)then os n else AB q os n s
theorem u6{q:Nat→Nat}{os:Nat→Own}:∀{n:Nat} {s:Nat},(∃i,i<n∧s=q i∧AB q os n s=os i)∨AB q os n s= .none
 |0,s=> .inr rfl
 |n+1,s=>by
  simp only[AB]
  cases hb:Nat.beq s (q n)with
  |true=>exact .inl ⟨n,Nat.lt_succ_self _,Nat.eq_of_beq_eq_true hb,rfl⟩
  |false=>
   rcases @u6 q os n s with⟨i,h1,h2,h3⟩|h
   ·exact .inl ⟨i,by omega,h2,h3⟩
   ·exact .inr h
theorem Gf{q:Nat→Nat}{os:Nat→Own}:∀{n i:Nat},(∀i j,i<n→j<n→q i=q j→i=j)→i<n→AB q os n (q i)=os i
 |n+1,i,hq,h=>by
  simp only[AB]
  cases hb:Nat.beq (q i) (q n)with
  |true=>rw[hq i n h (Nat.lt_succ_self _) (Nat.eq_of_beq_eq_true hb)];rfl
  |false=>
   have hne:i≠n:=fun e=>by rw[e,Nat.beq_refl]at hb;cases hb
   exact Gf (fun a b ha hb=>hq a b (by omega) (by omega)) (by omega)
mutual
inductive Rn (n:Nat) (p g p' g' :Nat→Nat):D→D→Prop
 |pure (d:D):Pure d→Rn n p g p' g' d d
 |bx (i o:Nat):i<n→Rn n p g p' g' (.bx (p i) (g i) o) (.bx (p' i) (g' i) o)
 |os (i:Nat):i<n→Rn n p g p' g' (.os (p i) (g i)) (.os (p' i) (g' i))
 |agg (l l' :List D):vb n p g p' g' l l'→Rn n p g p' g' (.agg l) (.agg l')
 |fn (f:FuncId) (c c' :List D):vb n p g p' g' c c'→Rn n p g p' g' (.fn f c) (.fn f c')
inductive vb (n:Nat) (p g p' g' :Nat→Nat):List D→List D→Prop
 |nil:vb n p g p' g' [] []
 |cons (d d' :D) (l l' :List D):Rn n p g p' g' d d'→vb n p g p' g' l l'→vb n p g p' g' (d::l) (d' ::l')
end
section
variable {κ κ' :Nat→Nat→Option Value} {γ γ' :Nat→Nat} {sv sv' :Nat→Value} {n:Nat} {p g p' g' :Nat→Nat}
mutual
theorem Rn.rep(hκ:∀b o v,κ b o=some v→κ' b o=some v)(h1:∀i,i<n→γ (p i)=g i)(h2:∀i,i<n→γ' (p' i)=g' i)(h3:∀i,i<n→sv (p i)=sv' (p' i)):∀{d d' :D} {v:Value},Rn n p g p' g' d d'→cX κ γ sv d v→cX κ' γ' sv' d' v
 |_,_,_, .pure d hd,hr=>hr.pure hκ hd
 |_,_,_, .bx i o hi,hr=>by
  cases hr with
  |bx _ _ _ _ a b c=>
   obtain⟨b1,e1,e2⟩:=b (h1 i hi).symm
   exact .bx _ _ _ _ (Nat.le_of_eq (h2 i hi).symm) (fun _=>⟨b1,by rw[←h3 i hi];exact e1,e2⟩) c
 |_,_,_, .os i hi,hr=>by
  cases hr with
  |os _ _ _ a b c=>exact .os _ _ _ (Nat.le_of_eq (h2 i hi).symm) (fun _=>by rw[←h3 i hi];exact b (h1 i hi).symm) c
 |_,_,_, .agg l l' hl,hr=>by
  cases hr with
  |agg _ vs hv=>exact .agg _ _ (vb.rep hκ h1 h2 h3 hl hv)
 |_,_,_, .fn f c c' hl,hr=>by
  cases hr with
  |fn _ _ vs hv=>exact .fn _ _ _ (vb.rep hκ h1 h2 h3 hl hv)
theorem vb.rep(hκ:∀b o v,κ b o=some v→κ' b o=some v)(h1:∀i,i<n→γ (p i)=g i)(h2:∀i,i<n→γ' (p' i)=g' i)(h3:∀i,i<n→sv (p i)=sv' (p' i)):∀{l l' :List D} {vs:List Value},vb n p g p' g' l l'→RepL κ γ sv l vs→RepL κ' γ' sv' l' vs
 |_,_,_, .nil,hr=>by cases hr;exact .nil
 |_,_,_, .cons d d' l l' a b,hr=>by
  cases hr with
  |cons _ _ _ _ r1 r2=>exact .cons _ _ _ _ (Rn.rep hκ h1 h2 h3 a r1) (vb.rep hκ h1 h2 h3 b r2)
end
end
theorem K4{n:Nat}{p g p' g' :Nat→Nat}{d d' :D}(h:Rn n p g p' g' d d'):d'.jk=d.jk:=by cases h<;>rfl
theorem B0{n:Nat}{p g p' g' :Nat→Nat}:∀{l l' :List D},vb n p g p' g' l l'→aU l=true→aU l' =true
 |_,_, .nil,h=>h
 |_,_, .cons d d' l l' a b,h=>by
  simp only[aU,Bool.and_eq_true]at h⊢
  exact⟨by rw[K4 a];exact h.1,B0 b h.2⟩
inductive nz (n:Nat) (p g p' g' :Nat→Nat):Own→Own→Prop
 |box (l l' :List D):vb n p g p' g' l l'→nz n p g p' g' (.box l) (.box l')
 |arr (E z m:Nat) (f:Nat→List D):(∀i,i<m→af (f i))→nz n p g p' g' (.arr E z m f) (.arr E z m f)
theorem nz.owns{κ κ' :Nat→Nat→Option Value}{γ γ' :Nat→Nat}{sv sv' :Nat→Value}{n:Nat}{p g p' g' :Nat→Nat}{w:World}(hκ:∀b o v,κ b o=some v→κ' b o=some v)(h1:∀i,i<n→γ (p i)=g i)(h2:∀i,i<n→γ' (p' i)=g' i)(h3:∀i,i<n→sv (p i)=sv' (p' i)){s s' :Nat}(hs:sv s=sv' s'){base base' :Nat}{o o' :Own}(hb:∀E z m f b,o= .arr E z m f→cw o (sv s)=some b→base'≤b)(h:nz n p g p' g' o o')(ho:iC base κ γ sv w s o):iC base' κ' γ' sv' w s' o' :=by
 cases h with
 |box l l' hl=>
  obtain⟨b,T,cs,e1,e2,e3,e4⟩:=ho
  exact⟨b,T,cs,by rw[←hs];exact e1,e2,hl.rep hκ h1 h2 h3 e3,B0 hl e4⟩
 |arr E z m f hf=>
  obtain⟨xs,e1,e2,e3,e4⟩:=ho
  refine⟨xs, ?_,e2,e3,fun i hi=>(e4 i hi).pure hκ (hf i hi)⟩
  rw[←hs]
  refine⟨e1.1, ?_⟩
  rcases e1.2 with hn|⟨g,off,cap,cur,q1,q2,rest⟩
  ·exact .inl hn
  ·exact .inr ⟨g,off,cap,cur,q1,hb E z m f g rfl (by rw[q1];rfl),rest⟩
theorem nz.cw{n:Nat}{p g p' g' :Nat→Nat}{o o' :Own}(h:nz n p g p' g' o o')(v:Value):Ab.cw o' v=Ab.cw o v:=by
 cases h with
 |box=>cases v with
  |pointer a=>cases a<;>rfl
  |slice a _ _=>cases a<;>rfl
  |map a=>cases a<;>rfl
  |_=>rfl
 |arr=>rfl
theorem Kz{base:Nat}{κ:Nat→Nat→Option Value}{γ:Nat→Nat}{sv:Nat→Value}{w:World}{s:Nat}{E z m:Nat}{f:Nat→List D}(h:iC base κ γ sv w s (.arr E z m f)):∀b,cw (.arr E z m f) (sv s)=some b→base≤b:=fun b hb=>by
 obtain⟨xs,e1,_⟩:=h
 rcases e1.2 with⟨hv,_⟩|⟨g,off,cap,cur,hv,hbase,_⟩
 ·rw[hv]at hb;cases hb
 ·rw[hv]at hb;simp only[cw,Option.some.injEq]at hb;subst hb;exact hbase
inductive MB:Own→Own→Prop
 |box (l l' :List D):MB (.box l) (.box l')
 |arr (E z m:Nat) (f:Nat→List D) (E' z' m' :Nat) (f' :Nat→List D):MB (.arr E z m f) (.arr E' z' m' f')
theorem MB.cw{o o' :Own}(h:MB o o')(v:Value):Ab.cw o' v=Ab.cw o v:=by
 cases h<;>cases v with
  |pointer a=>cases a<;>rfl
  |slice a _ _=>cases a<;>rfl
  |map a=>cases a<;>rfl
  |_=>rfl
structure vH (n:Nat) (bs:Nat→Option Nat) (w w' :World):Prop where
 os:w'.os=w.os
 tape:w'.tape=w.tape
 output:w'.output=w.output
 size:w.heap.size≤w'.heap.size
 block:∀k,k<w.heap.size→(∀i,i<n→bs i≠some k)→w'.heap[k]? =w.heap[k]?
theorem vH.refl(n:Nat)(bs:Nat→Option Nat)(w:World):vH n bs w w:=⟨rfl,rfl,rfl,Nat.le_refl _,fun _ _ _=>rfl⟩
def one:Nat→Nat:=fun _=>1
structure jg (Z:Seat) (f:FuncId) (n:Nat) (q:Nat→Nat) (os os' :Nat→Own) (A:List D) (R:D):Prop where
 refR:Rn n q one q one R R
 kind:∀i,i<n→MB (os i) (os' i)
 body:fN Z.P f
 calls:∀(w:World) (κ:Nat→Nat→Option Value) (sv:Nat→Value) (args:List Value),(∀i j b,i<n→j<n→cw (os i) (sv (q i))=some b→cw (os j) (sv (q j))=some b→i=j)→Fits κ w→(∀i b,i<n→cw (os i) (sv (q i))=some b→∀o,κ b o=none)→jM Z κ→
  (∀i,i<n→iC 0 κ (gM q n) sv w (q i) (os i))→RepL κ (gM q n) sv A args→
  Calls Z.P f args.toArray w fun e w' =>∃v,e= .returned v∧cX (eE κ w w') (gM q n) sv R v∧(∀i,i<n→iC 0 (eE κ w w') (gM q n) sv w' (q i) (os' i))∧vH n (fun i=>cw (os i) (sv (q i))) w w'
def xp(w0:World)(n:Nat)(bs:Nat→Option Nat)(M:Nat→Prop)(w:World):Prop:=vH n bs w0 w∧∀k,M k→w0.heap.size≤k∨∃i,i<n∧bs i=some k
theorem Jz(w0:World)(n:Nat)(bs:Nat→Option Nat):∀M w w',xp w0 n bs M w→Step M w w'→xp w0 n bs (fun k=>M k∨w.heap.size≤k) w' :=fun M w w' h hs=>
 ⟨⟨hs.os.trans h.1.os,hs.tape.trans h.1.tape,hs.output.trans h.1.output,Nat.le_trans h.1.size hs.size,fun k hk he=>
   (hs.block k (Nat.lt_of_lt_of_le hk h.1.size) (fun hm=>by
     rcases h.2 k hm with h8|⟨i,h8,h9⟩
     ·omega
     ·exact he i h8 h9)).trans (h.1.block k hk he)⟩,
   fun k hk=>by
    rcases hk with hk|hk
    ·exact h.2 k hk
    ·exact .inl (Nat.le_trans h.1.size hk)⟩
theorem DC{w0:World}{n:Nat}{bs:Nat→Option Nat}:∀M w w' D,xp w0 n bs M w→w.grownBy w' (some D)→w0.heap.size≤D→xp w0 n bs M w' :=fun M w w' D h1 hg hD=>
 ⟨⟨hg.os.trans h1.1.os,hg.tape.trans h1.1.tape,hg.output.trans h1.1.output,Nat.le_trans h1.1.size hg.size,fun k hk he=>
   (hg.block k (Nat.lt_of_lt_of_le hk h1.1.size) (fun e=>by simp only[Option.some.injEq]at e;omega)).trans (h1.1.block k hk he)⟩,h1.2⟩
def Ctx.yB(Z:Seat)(nt:Nat)(w0:World)(κ0:Nat→Nat→Option Value)(n:Nat)(q:Nat→Nat)(bs:Nat→Option Nat)(sv:Nat→Value):Ctx:=⟨Z,nt,w0,κ0,none,fun b=>∃i,i<n∧bs i=some b,fun _ _=>none,gM q n,sv,fun _=>False,false,none,xp w0 n bs,Jz w0 n bs,fun s=>Nat.ble XB s⟩
def St.uc(n:Nat)(q:Nat→Nat)(os:Nat→Own)(A:List D):St:=⟨fun i=>match nth A i with|some d=>d|none=> .undef,gM q n,AB q os n⟩
def AV(o o' :Own):Prop:=(∀v,cw o v=cw o' v)∧∀base κ γ sv w s,iC base κ γ sv w s o→iC base κ γ sv w s o'
def RP(X:Ctx)(rs:List ResultVar)(n:Nat)(q:Nat→Nat)(os' :Nat→Own)(R:D):Exit→St→Prop
 | .normal,S| .ret,S=>∃S' ds,Wk X S S'∧(∀i,i<n→S'.γ (q i)=1∧AV (S'.σ (q i)) (os' i))∧kV X S' rs ds∧∀κ γ sv v,cX κ γ sv (gu ds) v→cX κ γ sv R v
 |_,_=>False
theorem uK{Z:Seat}{f:FuncId}{fn:Func}{c:Code}{n:Nat}{q:Nat→Nat}{os os' :Nat→Own}{A:List D}{R:D}(hf:Z.P.funcs[f]? =some fn)(hb:fn.body=some c)(hname:(fn.name== "runtime.NumGoroutine")=false)(hn:Nat.ble A.length fn.ntmps=true)
 (hq:∀i j,i<n→j<n→q i=q j→i=j)(hx:∀i,i<n→∀E z m f,os i= .arr E z m f→XB≤q i)(hk:∀i,i<n→MB (os i) (os' i))(ht' :∀i,i<n→nz n q one q one (os' i) (os' i))(hR:Rn n q one q one R R)
 (h:∀w κ bs sv,W (Ctx.yB Z fn.ntmps w κ n q bs sv) c (RP (Ctx.yB Z fn.ntmps w κ n q bs sv) fn.results.toList n q os' R) (St.uc n q os A)):jg Z f n q os os' A R:=by
 refine⟨hR,hk,⟨fn,c,hf,hb,hname⟩,fun w κ sv args hinj hκ hκb hglob hbox hrep=> ?_⟩
 refine(callsIn_wide (n:=0)).1 (callsIn_of_wp_marks hf hb trivial ?_ rfl)
 have hlen:A.length≤fn.ntmps:=Nat.le_of_ble_eq_true hn
 have hal:=hrep.length
 have hσ:∀s b',cw (AB q os n s) (sv s)=some b'→∃i,i<n∧s=q i∧cw (os i) (sv (q i))=some b' :=by
  intro s b' hs
  rcases @u6 q os n s with⟨i,h1,h2,h3⟩|h3
  ·rw[h3,h2]at hs;exact⟨i,h1,h2,hs⟩
  ·rw[h3]at hs;cases hs
 have hsim:dh (Ctx.yB Z fn.ntmps w κ n q (fun i=>cw (os i) (sv (q i))) sv) κ sv (St.uc n q os A) {tmps:=args.toArray++Array.replicate (fn.ntmps-args.toArray.size) Go.undef,defers:=[]} w:=by
  refine⟨by simp[Ctx.yB];omega,sR.nil rfl,fun i _=>gX hrep _ i, ?_⟩
  refine⟨hκ,fun s=> ?_,fun s t b' hs ht=> ?_,fun s b' o hs=> ?_,fun s b' hs=> .inr (.inr ?_),⟨fun k=>∃i,i<n∧cw (os i) (sv (q i))=some k,⟨vH.refl _ _ _,fun k h=> .inr h⟩,fun s b' hs=> ?_⟩,fun g l hg=> ?_,fun b o v _ hk=>hk,(fun b' hb' =>by cases hb'),Nat.le_refl _,⟨fun _ _ _ h=>(by cases h),fun _=>Nat.le_refl _,fun _ _=>rfl⟩,fun _ _ _ _ h=>h,fun _ _ _ h=>h,fun _ h=>h.elim⟩
  ·show iC _ _ _ _ _ s (AB q os n s)
   rcases @u6 q os n s with⟨i,h1,h2,h3⟩|h3
   ·rw[h3]
    subst h2
    have h4:=hbox i h1
    cases ho:os i with
    |none=>trivial
    |box l=>rw[ho]at h4;exact h4
    |mp l=>rw[ho]at h4;exact h4
    |arr E z m f=>
     have hxa:(Ctx.yB Z fn.ntmps w κ n q (fun i=>cw (os i) (sv (q i))) sv).base (q i)=0:=by
      show(bif Nat.ble XB (q i)then 0 else _)=0
      rw[Nat.ble_eq_true_of_le (hx i h1 E z m f ho)];rfl
     rw[ho]at h4
     rw[hxa];exact h4
   ·rw[h3];trivial
  ·obtain⟨i,h1,rfl,h2⟩:=hσ s b' hs
   obtain⟨j,h3,rfl,h4⟩:=hσ t b' ht
   rw[hinj i j b' h1 h3 h2 h4]
  ·obtain⟨i,h1,h2,h3⟩:=hσ s b' hs
   exact hκb i b' h1 h3 o
  ·obtain⟨i,h1,h2,h3⟩:=hσ s b' hs
   exact⟨i,h1,h3⟩
  ·obtain⟨i,h1,h2,h3⟩:=hσ s b' hs
   exact⟨i,h1,h3⟩
  ·obtain⟨h1,u,h2,h3⟩:=hglob g l hg
   exact⟨h1,u,h2.pure (fun _ _ _ h=>h) (Z.globPure g l hg),h3⟩
 refine wpIn_mono (h w κ _ sv κ sv _ w hsim) ?_
 rintro e a' w' ⟨κ',sv',S',hs,hq'⟩
 cases e<;>first|exact hq'.elim|skip
 all_goals
  obtain⟨S2,ds,hw,hbx,hd,hcv⟩:=hq'
  obtain⟨κ2,sv2,hs⟩:=hw _ _ _ _ hs
  obtain⟨Ds,d1,d2,d3,_⟩:=hs.defers
  show LeavesInM _ _ _ _ _ _ a'.defers _ _
  rw[d1]
  refine g5 rfl DC hd (fun a w v hs h2=> ?_) Ds a' w' hs d1 d2 d3
  obtain⟨M,h1,_⟩:=hs.wld.frame
  have hpin:∀i,i<n→sv2 (q i)=sv (q i):=fun i hi=>hs.wld.le.vals (q i) (show gM q n (q i)=S2.γ (q i) from by rw[sN hi,(hbx i hi).1])
  refine⟨v,rfl,hR.rep (ke hs.wld) (fun j hj=>(hbx j hj).1) (fun j hj=>sN hj) (fun j hj=>hpin j hj) (hcv _ _ _ _ h2),fun i hi=> ?_,h1.1⟩
  obtain⟨hγ,_,hconv⟩:=hbx i hi
  exact(ht' i hi).owns (ke hs.wld) (fun j hj=>(hbx j hj).1) (fun j hj=>sN hj) (fun j hj=>hpin j hj) (hpin i hi) (fun _ _ _ _ _ _ _=>Nat.zero_le _) (hconv _ _ _ _ _ _ (hs.wld.own (q i)))
section
variable {X:Ctx} {Q:Exit→St→Prop} {S:St} {ops:Array Oper} {o:Oper} {rest:List Oper}
theorem Iq{f:FuncId}{x:Operand}{xs:Array Operand}{ts:Array TypeId}{n:Nat}{q ps:Nat→Nat}{os os' :Nat→Own}{c A:List D}{R R' :D}(hinj:∀i j,i<n→j<n→ps i=ps j→i=j)(hq:∀i j,i<n→j<n→q i=q j→i=j)(hg:o.guard=none)(ho:o.op= .call {callee:= .value x,args:=xs,argTypes:=ts})
 (hx:S.ev X x= .fn f c)(hbox:∀i,i<n→nz n ps (fun j=>S.γ (ps j)) q one (S.σ (ps i)) (os i))(hA:vb n ps (fun j=>S.γ (ps j)) q one (xs.toList.map (S.ev X)++c) A)
 (hc:jg X.Z f n q os os' A R)(hRR:Rn n q one ps (fun j=>S.γ (ps j)) R R'){t:Nat}(hd:o.dst=some t){σ' :Nat→Own}(hσ1:∀s,(∀i,i<n→ps i≠s)→σ' s=S.σ s)(hσ2:∀i,i<n→nz n q one ps (fun j=>S.γ (ps j)) (os' i) (σ' (ps i)))
 (hk:WL X ops rest Q ⟨bM S.ρ t R',S.γ,σ'⟩):WL X ops (o::rest) Q S:=fun κ sv a w hs=>by
 obtain⟨lb,hl1,hl2⟩:=J1 hs hx
 have hrun:=sX (w:=w) hc.body ho hl1
 have hr:=(en hs xs.toList).append hl2
 --the caller's values,told by the callee's places
 let svq:Nat→Value:=fun s=>if h:∃i,i<n∧q i=s then sv (ps h.choose)else Go.undef
 have hsvq:∀i,i<n→svq (q i)=sv (ps i):=fun i hi=>by
  have h:∃j,j<n∧q j=q i:=⟨i,hi,rfl⟩
  show(if h:∃j,j<n∧q j=q i then sv (ps h.choose)else Go.undef)=_
  rw[dif_pos h,hq _ _ h.choose_spec.1 hi h.choose_spec.2]
 have hbl:∀i,i<n→∀v,cw (os i) v=cw (S.σ (ps i)) v:=fun i hi v=>(hbox i hi).cw v
 have hcall:=hc.calls w κ svq _ (fun i j b hi hj h1 h2=>by
  rw[hsvq i hi,hbl i hi]at h1
  rw[hsvq j hj,hbl j hj]at h2
  exact hinj i j hi hj (hs.wld.inj _ _ b h1 h2)) (dh.fits hs.wld) (fun i b hi h1 o=>by
  rw[hsvq i hi,hbl i hi]at h1
  exact hs.wld.sep _ _ o h1) (dh.fV hs.wld) (fun i hi=>(hbox i hi).owns (fun _ _ _ h=>h) (fun _ _=>rfl) (fun j hj=>sN hj) (fun j hj=>(hsvq j hj).symm) (hsvq i hi).symm (fun _ _ _ _ _ _ _=>Nat.zero_le _) (hs.wld.own (ps i)))
  (hA.rep (fun _ _ _ h=>h) (fun _ _=>rfl) (fun j hj=>sN hj) (fun j hj=>(hsvq j hj).symm) hr)
 refine wpListIn_plain hg fun K hK=>eW hrun hcall ?_
 rintro e w' ⟨v,rfl,hv,hnew,hfr⟩
 have hle:Le κ (eE κ w w') S.γ S.γ sv sv:=mi hs.wld.imm w'
 have hne0:∀i,i<n→∀b,cw (os i) (svq (q i))=some b→cw (S.σ (ps i)) (sv (ps i))=some b:=fun i hi b h=>by
  rw[hsvq i hi,hbl i hi]at h;exact h
 have hno:∀s,(∀i,i<n→ps i≠s)→∀b',cw (S.σ s) (sv s)=some b'→w'.heap[b']? =w.heap[b']? :=fun s hns b' hb' =>
  hfr.block b' (cy (hs.wld.own s) hb') (fun i hi e=>hns i hi (hs.wld.inj _ _ b' (hne0 i hi b' e) hb'))
 have hbk:∀s b',cw (σ' s) (sv s)=some b'→cw (S.σ s) (sv s)=some b' :=fun s b' hb' =>by
  by_cases e:∃i,i<n∧ps i=s
  ·obtain⟨i,hi,rfl⟩:=e
   rw[(hσ2 i hi).cw,(hc.kind i hi).cw,hbl i hi]at hb'
   exact hb'
  ·rw[hσ1 s (fun i hi e2=>e ⟨i,hi,e2⟩)]at hb';exact hb'
 have hW:cV X (eE κ w w') sv ⟨S.ρ,S.γ,σ'⟩ w' :=by
  have h0:=hs.wld
  obtain⟨h1,h2,h3,h4,h5,⟨M,h6,h6'⟩,h7,h8,h9,h10,h11,h12,h13,h14⟩:=hs.wld
  refine⟨fun b' o v hk=> ?_,fun s=> ?_,fun s u b' ht hu=>h3 s u b' (hbk s b' ht) (hbk u b' hu),fun s b' o ht=> ?_,fun s b' ht=>h5 s b' (hbk s b' ht),⟨_,X.cl M w w' h6 ⟨hfr.os,hfr.tape,hfr.output,hfr.size,fun k hk hm=>hfr.block k hk (fun i hi e=>hm (h6' _ _ (hne0 i hi k e)))⟩,fun s b' ht=> .inl (h6' s b' (hbk s b' ht))⟩,fun g l hgl=> ?_,fun b' o v hlt hk=> ?_,h9,Nat.le_trans h10 hfr.size,h11.trans hle,fun b' o v hk=> ?_,fun s b' ht=>h13 s b' (hbk s b' ht),fun b h=>Nat.lt_of_lt_of_le (h14 b h) hfr.size⟩
  ·simp only[eE]at hk
   split at hk
   ·rename_i hlt
    have h1' :=h1 b' o v hk
    have hb2:=hfr.block b' hlt (fun i hi e=>by
     have:=h4 (ps i) b' o (hne0 i hi b' e)
     rw[hk]at this;cases this)
    have:w'.cell? ⟨b',o,none⟩=w.cell? ⟨b',o,none⟩:=by simp only[World.cell?,hb2]
    rw[this];exact h1'
   ·exact hk
  ·by_cases e:∃i,i<n∧ps i=s
   ·obtain⟨i,hi,rfl⟩:=e
    have q3:=hσ2 i hi
    refine q3.owns (fun _ _ _ h=>h) (fun j hj=>sN hj) (fun _ _=>rfl) hsvq (hsvq i hi) (fun E z m f b he hb=> ?_) (hnew i hi)
    rw[(hc.kind i hi).cw]at hb
    have hb:=hne0 i hi b hb
    have ho:=h2 (ps i)
    have hk1:=hc.kind i hi
    have hbx:=hbox i hi
    rw[he]at hk1
    generalize os i=o2 at hk1 hbx
    generalize hk2:S.σ (ps i)=o1 at hbx
    rw[hk2]at ho hb
    cases hk1
    cases hbx
    exact Kz ho b hb
   ·have hns:∀i,i<n→ps i≠s:=fun i hi e2=>e ⟨i,hi,e2⟩
    show iC _ _ _ _ _ _ (σ' s)
    rw[hσ1 s hns]
    exact du hle rfl (hno s hns) (h2 s)
  ·have hb' :=hbk s b' ht
   have:=cy (h2 s) hb'
   simp only[eE];rw[if_pos this];exact h4 s b' o hb'
  ·obtain⟨hc2,u,hu,hk⟩:=h7 g l hgl
   exact⟨hc2,u,hu.mono hle,fun j v hj=>hle.cells _ _ _ (hk j v hj)⟩
  ·have:=h10
   simp only[eE]at hk
   rw[if_pos (by omega)]at hk
   exact h8 b' o v hlt hk
  ·simp only[eE]at hk
   split at hk
   ·exact h12 b' o v hk
   ·intro hT;have:=h14 b' hT;omega
 have hdf:sR X.nd X.w0.heap.size a w' :=hs.defers.step fun k o hk ho=>by
  rw[hfr.block k (Array.getElem?_eq_some_iff.1 hk).1 (fun i hi e=>by
   obtain⟨o',q1,q2⟩:=iY (hs.wld.own (ps i)) (hne0 i hi k e)
   rw[hk]at q1;cases q1;rw[ho]at q2;cases q2)]
  exact hk
 have hs' :dh X (eE κ w w') sv ⟨S.ρ,S.γ,σ'⟩ a w' :=⟨hs.size,hdf,fun i hi=>(hs.slot i hi).mono hle,hW⟩
 refine⟨v,rfl, ?_⟩
 rw[hd]
 exact hK _ _ (hk _ sv _ w' (hs'.put (some t) (hRR.rep (fun _ _ _ h=>h) (fun j hj=>sN hj) (fun _ _=>rfl) hsvq hv)))
end
end Go.Ab
namespace Go.Ab
open Go Go.RowKit
set_option linter.all false
section
variable {X:Ctx} {Q:Exit→St→Prop} {S S' S0:St} {ops:Array Oper} {o:Oper}
def QF(M:List Nat)(m:Nat):Bool:=(List.range m).all fun j=>((M[m]?).getD 0).testBit j
def KP(ops:List Oper)(E:List Ent):Bool:=MH ops&&Ev (ub [] ops) E&&Nat.beq ops.length (E.length+1)&&QF (ub [] ops) E.length
theorem H7{E:List Ent}{V:List Vl}(hok:KP ops.toList E=true)(hs:∀k,k<E.length→O6 X Q ops k (pK S0 E V top k) (HH E k) (m6 E k) (uQ V k))
 (hQ:∀κ sv a w,dh X κ sv (pK S0 E V top E.length) a w→wpOpIn X.F 0 X.Z.P ops (lift X Q) E.length (lift X Q .normal) a w):Rm X Q ops S0:=by
 simp only[KP,Bool.and_eq_true]at hok
 obtain⟨⟨⟨hback,hpairs⟩,hlen⟩,hlast⟩:=hok
 have hlen:ops.size=E.length+1:=by simpa using Nat.eq_of_beq_eq_true hlen
 have back:∀{i:Nat} {o:Oper},ops[i]? =some o→∀j∈rX o,j<i:=by
  intro i o ho j hj
  have h1:=List.all_eq_true.1 hback (o,i) (List.mk_mem_zipIdx_iff_getElem?.2 (by simpa using ho))
  have h2:=List.all_eq_true.1 h1 j hj
  simpa[Nat.blt_eq]using h2
 have ent:∀{i:Nat},i<E.length→∃a,E[i]? =some a:=fun h=>⟨_,List.getElem?_eq_getElem h⟩
 have bits:∀{L:Nat→Bool},xg ops.toList L→∀(i:Nat) (o:Oper) (b:Nat),ops[i]? =some o→(((ub [] ops.toList)[i]?).getD 0).testBit b=true→(∀j∈rX o,L j=true)→L b=true:=fun hc i o b ho=>
  zt hc ops.toList [] [] (by simp) rfl (by simp) i o b (by simpa using ho)
 have main:∀n (L:Array Bool) (a:Act) (w:World) κ sv,L.size=ops.size→L.toList.count false≤n→xg ops.toList (fun i=>L.getD i false)→L.getD E.length false=false→
  dh X κ sv (pK S0 E V (fun i=>L.getD i false) E.length) a w→wpAnyIn X.F 0 X.Z.P .any ops (lift X Q) n L a w:=by
  intro n
  have done:∀n (L:Array Bool) (a:Act) (w:World),L.size=ops.size→(∀i,i<ops.size→L.getD i false=true)→lift X Q .normal a w→wpAnyIn X.F 0 X.Z.P .any ops (lift X Q) n L a w:=by
   intro n L a w hsz hall hl
   have hno:∀i,i∉Region.ready .any ops L:=by
    intro i hi
    obtain⟨h1,o,h2,_⟩:=mem_ready.1 hi
    have h3:i<ops.size:=(Array.getElem?_eq_some_iff.1 h2).1
    have:=hall i h3
    have h4:i<L.size:=by omega
    simp[Array.getD,h4]at h1 this
    rw[this]at h1;cases h1
   cases n with
   |zero=>exact⟨List.eq_nil_iff_forall_not_mem.2 hno,hl⟩
   |succ n=>exact⟨fun _=>hl,fun i hi=>absurd hi (hno i)⟩
  have rdy:∀(L:Array Bool),L.size=ops.size→Region.ready .any ops L=[]→∀i,i<ops.size→L.getD i false=true:=by
   intro L hsz hr i
   induction i using Nat.strongRecOn with
   |ind i ih=>
    intro hi
    cases hL:L.getD i false with
    |true=>rfl
    |false=>
     exfalso
     have:i∈Region.ready .any ops L:=by
      refine mem_ready.2 ⟨?_,ops[i],Array.getElem?_eq_getElem hi,fun e he hb=> ?_⟩
      ·have h1:i<L.size:=by omega
       simp[Array.getD,h1]at hL⊢;exact hL
      ·have hj:e.on∈rX ops[i]:=List.mem_map.2 ⟨e,List.mem_filter.2 ⟨by simpa using he,hb⟩,rfl⟩
       have:=back (Array.getElem?_eq_getElem hi) _ hj
       exact ih _ this (by omega)
     rw[hr]at this;cases this
  induction n with
  |zero=>
   intro L a w κ sv hsz hcnt hcl hm hsim
   exfalso
   have h0:L.toList.count false=0:=by omega
   have h2:=List.count_eq_zero.1 h0
   have h1:E.length<L.size:=by omega
   apply h2
   simp[Array.getD,h1]at hm
   rw[←hm];exact List.getElem_mem (by simpa using h1)
  |succ n ih=>
   intro L a w κ sv hsz hcnt hcl hm hsim
   refine⟨fun h0=>(by have:=rdy L hsz h0 E.length (by omega);rw[hm]at this;cases this),fun i hi=> ?_⟩
   obtain⟨h1,o,h2,h3⟩:=mem_ready.1 hi
   have hio:i<ops.size:=(Array.getElem?_eq_some_iff.1 h2).1
   have hiL:i<L.size:=by omega
   have hLi:L.getD i false=false:=by simp[Array.getD,hiL]at h1⊢;exact h1
   have hdir:∀j∈rX o,L.getD j false=true:=by
    intro j hj
    obtain⟨e,he,rfl⟩:=List.mem_map.1 hj
    obtain⟨he1,he2⟩:=List.mem_filter.1 he
    exact h3 e (by simpa using he1) he2
   by_cases him:i=E.length
   ·subst him
    have hall:∀j,j<E.length→L.getD j false=true:=fun j hj=>by
     have hb:(((ub [] ops.toList)[E.length]?).getD 0).testBit j=true:=List.all_eq_true.1 hlast j (List.mem_range.2 hj)
     exact bits hcl E.length o j h2 hb hdir
    have hst:pK S0 E V (fun i=>L.getD i false) E.length=pK S0 E V top E.length:=by
     unfold pK
     rw[val_congr (L' :=top) _ fun j hj=>hall j hj,val_congr (L' :=top) _ fun j hj=>hall j hj,val_congr (L' :=top) _ fun j hj=>hall j hj]
    rw[hst]at hsim
    refine wpOpIn_mono ?_ (hQ κ sv a w hsim)
    intro a' w' hl
    refine done n (L.setIfInBounds E.length true) a' w' (by simp[hsz]) (fun k hk=> ?_) hl
    simp only[Array.getD_eq_getD_getElem?]
    rw[Array.getElem?_setIfInBounds]
    by_cases e:E.length=k
    ·subst e;simp[hiL]
    ·rw[if_neg e]
     have:=hall k (by omega)
     simpa[Array.getD_eq_getD_getElem?]using this
   have hilt:i<E.length:=by omega
   obtain⟨ei,hei⟩:=ent (i:=i) hilt
   --what number i reads is as in the text's order
   have order:∀j,j<E.length→j≠i→∀ej,E[j]? =some ej→yD ei ej=true→(L.getD j false=true↔j<i):=by
    intro j hj hne ej hej hc
    have hp:=mU hpairs hei hej (Ne.symm hne) (by rw[hc];rfl)
    constructor
    ·intro hLj
     refine Nat.lt_of_le_of_ne (Nat.le_of_not_lt fun hlt=> ?_) hne
     rw[if_neg (by omega)]at hp
     obtain⟨oj,hoj⟩:∃oj,ops[j]? =some oj:=⟨_,Array.getElem?_eq_getElem (by omega)⟩
     have:=bits hcl j oj i hoj hp (hcl j oj (by simpa using hoj) hLj)
     rw[hLi]at this;cases this
    ·intro hlt
     rw[if_pos hlt]at hp
     exact bits hcl i o j h2 hp hdir
   have agree:mw (HH E i) (pK S0 E V top i) (pK S0 E V (fun i=>L.getD i false) E.length):=by
    rw[JD hei]
    have hmin:min E.length i=i:=by omega
    have key:∀(j t:Nat),j<E.length→((t∈ei.1.rr∧(m6 E j).t=some t)∨(t∈ei.1.rg∧(m6 E j).g=some t)∨(t∈ei.1.ro∧(m6 E j).o=some t))→(L.getD j false=true↔j<i):=by
     intro j t hj hc
     by_cases e:j=i
     ·subst e;rw[hLi];simp
     ·obtain⟨ej,hej⟩:=ent hj
      rw[s7 hej]at hc
      exact order j hj e ej hej (Dc hc)
    refine⟨fun t ht=> ?_,fun t ht=> ?_,fun t ht=> ?_⟩
    ·have:=qu (w:=fun j=>(m6 E j).t) (v:=fun j=>(uQ V j).d) (L:=fun i=>L.getD i false) (f0:=S0.ρ) (i:=i) (l:=t) E.length (fun j hj hw=>key j t hj (.inl ⟨ht,hw⟩))
     rw[hmin]at this;exact this
    ·have:=qu (w:=fun j=>(m6 E j).g) (v:=fun j=>(uQ V j).g) (L:=fun i=>L.getD i false) (f0:=S0.γ) (i:=i) (l:=t) E.length (fun j hj hw=>key j t hj (.inr (.inl ⟨ht,hw⟩)))
     rw[hmin]at this;exact this
    ·have:=qu (w:=fun j=>(m6 E j).o) (v:=fun j=>(uQ V j).o) (L:=fun i=>L.getD i false) (f0:=S0.σ) (i:=i) (l:=t) E.length (fun j hj hw=>key j t hj (.inr (.inr ⟨ht,hw⟩)))
     rw[hmin]at this;exact this
   refine wpOpIn_mono ?_ (hs i hilt _ agree κ sv a w hsim)
   rintro a' w' ⟨κ',sv',hsim'⟩
   have hLset:(fun k=>(L.setIfInBounds i true).getD k false)=fun k=>bif Nat.beq k i then true else L.getD k false:=by
    funext k
    by_cases e:k=i
    ·subst e;rw[Nat.beq_refl];simp[Array.getD,hiL]
    ·have:Nat.beq k i=false:=by
      cases hb:Nat.beq k i
      ·rfl
      ·exact absurd (Nat.eq_of_beq_eq_true hb) e
     rw[this]
     simp only[Array.getD_eq_getD_getElem?,cond_false]
     rw[Array.getElem?_setIfInBounds,if_neg (fun h=>e h.symm)]
   refine ih (L.setIfInBounds i true) a' w' κ' sv' (by simp[hsz]) ?_ ?_ (by refine(congrFun hLset E.length).trans ?_;have hb:Nat.beq E.length i=false:=(by cases hb:Nat.beq E.length i with|false=>rfl|true=>exact absurd (Nat.eq_of_beq_eq_true hb).symm him);rw[hb];exact hm) ?_
   ·rw[Array.toList_setIfInBounds]
    have hget:L.toList[i]'(by simpa using hiL)=false:=by simp[Array.getD,hiL]at hLi;simpa using hLi
    have hmem:false∈L.toList:=hget▸List.getElem_mem (by simpa using hiL)
    have hpos:=List.count_pos_iff.2 hmem
    rw[List.count_set (by simpa using hiL),hget,if_pos (show(false==false)=true from rfl),if_neg (by decide)]
    omega
   ·intro j oj hoj hLj d hd
    have hcong:∀k,(L.setIfInBounds i true).getD k false=bif Nat.beq k i then true else L.getD k false:=fun k=>congrFun hLset k
    simp only[hcong]at hLj⊢
    by_cases e:d=i
    ·subst e;rw[Nat.beq_refl];rfl
    ·have hb:Nat.beq d i=false:=by
      cases hb:Nat.beq d i
      ·rfl
      ·exact absurd (Nat.eq_of_beq_eq_true hb) e
     rw[hb]
     show L.getD d false=true
     by_cases e2:j=i
     ·subst e2
      have:ops[j]? =some oj:=by simpa using hoj
      rw[h2]at this
      cases this
      exact hdir d hd
     ·have hb2:Nat.beq j i=false:=by
       cases hb:Nat.beq j i
       ·rfl
       ·exact absurd (Nat.eq_of_beq_eq_true hb) e2
      rw[hb2]at hLj
      exact hcl j oj hoj hLj d hd
   ·rw[hLset]
    have hww:∀j,i<j→j<E.length→L.getD j false=true→∀ej,E[j]? =some ej→lE ei ej=false:=by
     intro j hij hj hLj ej hej
     cases hc:lE ei ej with
     |false=>rfl
     |true=>
      exfalso
      have hp:=mU hpairs hei hej (by omega) (by rw[hc];simp)
      rw[if_neg (by omega)]at hp
      obtain⟨oj,hoj⟩:∃oj,ops[j]? =some oj:=⟨_,Array.getElem?_eq_getElem (by omega)⟩
      have:=bits hcl j oj i hoj hp (hcl j oj (by simpa using hoj) hLj)
      rw[hLi]at this;cases this
    have kw:∀(f:Wr→Option Nat) j,i<j→j<E.length→L.getD j false=true→(∀a b:Ent,f a.2=f b.2→f a.2≠none→lE a b=true)→f (m6 E i)≠f (m6 E j)∨f (m6 E i)=none:=by
     intro f j h1 h2 h3 h4
     obtain⟨ej,hej⟩:=ent h2
     have:=hww j h1 h2 h3 ej hej
     rw[s7 hei,s7 hej]
     by_cases e:f ei.2=none
     ·exact .inr e
     ·refine .inl fun e2=> ?_
      rw[h4 ei ej e2 e]at this;cases this
    have:pK S0 E V (fun k=>bif Nat.beq k i then true else L.getD k false) E.length=(pK S0 E V (fun i=>L.getD i false) E.length).app (m6 E i) (uQ V i):=by
     unfold pK St.app
     simp only
     rw[val_add (L:=fun i=>L.getD i false) hLi E.length (by omega) fun j a b c=>kw Wr.t j a b c fun a b h1 h2=>j5 (.inl ⟨h1,h2⟩),
      val_add (L:=fun i=>L.getD i false) hLi E.length (by omega) fun j a b c=>kw Wr.g j a b c fun a b h1 h2=>j5 (.inr (.inl ⟨h1,h2⟩)),
      val_add (L:=fun i=>L.getD i false) hLi E.length (by omega) fun j a b c=>kw Wr.o j a b c fun a b h1 h2=>j5 (.inr (.inr ⟨h1,h2⟩))]
    rw[this];exact hsim'
 intro κ sv a w hsim
 refine main ops.size (Array.replicate ops.size false) a w κ sv (by simp) (by simp) ?_ (by simp[Array.getD]) ?_
 ·intro i o ho hL
  exfalso
  by_cases h:i<ops.size<;>simp[Array.getD,h]at hL
 ·have:pK S0 E V (fun i=>(Array.replicate ops.size false).getD i false) E.length=S0:=by
   have e:(fun i=>(Array.replicate ops.size false).getD i false)=fun _=>false:=by
    funext i
    by_cases h:i<ops.size<;>simp[Array.getD,h]
   rw[e]
   have k:∀{α:Type} (w:Nat→Option Nat) (v:Nat→α) (f0:Nat→α) n,val w v (fun _=>false) f0 n=f0:=by
    intro α w v f0 n
    induction n with
    |zero=>rfl
    |succ n ih=>simp only[val,ih];rfl
   unfold pK
   rw[k,k,k]
  rw[this];exact hsim
theorem K7{E:List Ent}{V:List Vl}(hok:KP ops.toList E=true)(hg:o.guard=none)(hk:WL X ops [o] Q S):WG X Q ops S0 E V [o] S:=by
 rintro ⟨pre,hp1,hp2⟩ hl hsnd hst
 have hoi:ops[E.length]? =some o:=by rw[hp1,←hp2];simp
 refine H7 hok hsnd fun κ sv a w hs=> ?_
 rw[hst]at hs
 have h:=hk κ sv a w hs
 unfold wpListIn at h
 unfold wpOpIn
 rw[hoi]
 simp only
 have hw:Region.wanted o (yielded ops a.tmps)=true:=by unfold Region.wanted;rw[hg]
 rw[if_pos hw]at h⊢
 exact Oper.wpIn_mono (fun a' w' h2=>by unfold wpListIn at h2;exact h2) h
end
end Go.Ab
namespace Go.Ab
open Go Go.RowKit
set_option linter.all false
def lu:List (Int×Int)→Int→Option Int
 |[],_=>none
 |p::l,n=>bif decide (p.1=n)then some p.2 else lu l n
def BO:List (Int×Int)→Int→Int→List (Int×Int)
 |[],n,v=>[(n,v)]
 |p::l,n,v=>bif decide (p.1=n)then(n,v)::l else p::BO l n v
def IH(l:List (Int×Int))(n:Int):Int:=(lu l n).getD 0
def Jt(l:List (Int×Int))(n:Int):Bool:=(lu l n).isSome
def z6:List (Int×Int)→Int→Nat
 |[],_=>0
 |p::l,n=>bif decide (p.1=n)then 0 else z6 l n+1
abbrev OY(p:Int×Int):Value×Value:=(Value.int .i64 p.1,Value.int .i64 p.2)
theorem qA:∀{es:List MapEntry} {l:List (Int×Int)},es.map (fun e=>(e.key,e.val))=l.map OY→∀(n:Int) (i:Nat),
 Instr.findNow (.int .i64) (.int .i64 n) es i=some (match lu l n with|some v=>some (i+z6 l n, .int .i64 v)|none=>none)
 |[],[],_,n,i=>rfl
 |[],_::_,h,n,i=>by cases h
 |_::_,[],h,n,i=>by cases h
 |e::es,p::l,h,n,i=>by
  simp only[List.map_cons,List.cons.injEq,Prod.mk.injEq]at h
  obtain⟨⟨h1,h2⟩,h3⟩:=h
  have ih:=qA h3 n (i+1)
  simp only[Instr.findNow,h1,h2,Instr.sameNow,lu,z6]
  by_cases hp:p.1=n
  ·simp[hp]
  ·have:(n==p.1)=false:=by simpa using fun e=>hp e.symm
   simp only[this,hp,decide_false,cond_false,if_true]
   rw[ih]
   cases lu l n with
   |none=>rfl
   |some v=>simp;omega
theorem EP:∀{es:List MapEntry} {l:List (Int×Int)},es.map (fun e=>(e.key,e.val))=l.map OY→∀{n v:Int},lu l n=some v→∃e,es[z6 l n]? =some e∧e.key= .int .i64 n
 |[],[],_,n,v,h=>by cases h
 |[],_::_,h,n,v,_=>by cases h
 |_::_,[],h,n,v,_=>by cases h
 |e::es,p::l,h,n,v,hf=>by
  simp only[List.map_cons,List.cons.injEq,Prod.mk.injEq]at h
  obtain⟨⟨h1,h2⟩,h3⟩:=h
  simp only[lu,z6]at hf⊢
  by_cases hp:p.1=n
  ·simp only[hp,decide_true,cond_true]
   exact⟨e,by simp,by rw[h1,hp]⟩
  ·simp only[hp,decide_false,cond_false]at hf⊢
   obtain⟨e',q1,q2⟩:=EP h3 hf
   exact⟨e',by simpa using q1,q2⟩
theorem B4:∀{es:List MapEntry} {l:List (Int×Int)},es.map (fun e=>(e.key,e.val))=l.map OY→∀{n v:Int} (x:Int),lu l n=some v→
 (es.modify (z6 l n) fun e=>{e with key:= .int .i64 n,val:= .int .i64 x}).map (fun e=>(e.key,e.val))=(BO l n x).map OY
 |[],[],_,n,v,x,h=>by cases h
 |[],_::_,h,n,v,x,_=>by cases h
 |_::_,[],h,n,v,x,_=>by cases h
 |e::es,p::l,h,n,v,x,hf=>by
  have h' :=h
  simp only[List.map_cons,List.cons.injEq,Prod.mk.injEq]at h
  obtain⟨⟨h1,h2⟩,h3⟩:=h
  simp only[lu,z6,BO]at hf⊢
  by_cases hp:p.1=n
  ·simp only[hp,decide_true,cond_true,List.modify_zero_cons,List.map_cons]
   rw[h3]
  ·simp only[hp,decide_false,cond_false,List.modify_succ_cons,List.map_cons]at hf⊢
   rw[B4 h3 x hf,h1,h2]
theorem yC:∀{es:List MapEntry} {l:List (Int×Int)},es.map (fun e=>(e.key,e.val))=l.map OY→∀{n x:Int} (b:Nat),lu l n=none→
 (es++[({key:= .int .i64 n,val:= .int .i64 x,born:=b}:MapEntry)]).map (fun e:MapEntry=>(e.key,e.val))=(BO l n x).map OY
 |[],[],_,n,x,b,_=>rfl
 |[],_::_,h,n,x,b,_=>by cases h
 |_::_,[],h,n,x,b,_=>by cases h
 |e::es,p::l,h,n,x,b,hf=>by
  simp only[List.map_cons,List.cons.injEq,Prod.mk.injEq]at h
  obtain⟨⟨h1,h2⟩,h3⟩:=h
  simp only[lu,BO]at hf⊢
  by_cases hp:p.1=n
  ·simp only[hp,decide_true,cond_true]at hf;cases hf
  ·simp only[hp,decide_false,cond_false,List.cons_append,List.map_cons]at hf⊢
   rw[yC h3 b hf,h1,h2]
structure zH (P:Program) (t:TypeId):Prop where
 ty:∃k e i,P.underlying t=some (.map k e)∧P.underlying k=some (.int .i64)∧P.info? e=some i∧i.zero=some (.int .i64 0)
section
variable {P:Program} {w:World} {t:TypeId} {b:Nat} {es:Array MapEntry} {c:Nat} {l:List (Int×Int)}
theorem BF(ht:zH P t)(hb:w.heap[b]? =some (.map es c))(hm:tU es l)(n:Int):(Instr.lookup t (.map (some b)) (.int .i64 n) true).run P w= .ok (.tuple #[.int .i64 (IH l n), .bool (Jt l n)]) w:=by
 obtain⟨k,e,i,h1,h2,h3,h4⟩:=ht
 have hk:MapKept.IsKey (.int .i64) (.int .i64 n):=rfl
 have hf:=qA (es:=es.toList) (l:=l) hm n 0
 cases hq:lu l n with
 |none=>
  rw[hq]at hf
  simp[Instr.lookup,run_underlying h1,MapKept.run_getObj_map hb,MapKept.run_checkKey h2 hk,MapKept.run_findKey h2 hf,Result.andThen,zeroValue,typeInfo,h3,h4,IH,Jt,hq]
 |some v=>
  rw[hq]at hf
  simp[Instr.lookup,run_underlying h1,MapKept.run_getObj_map hb,MapKept.run_checkKey h2 hk,MapKept.run_findKey h2 hf,Result.andThen,IH,Jt,hq]
theorem BA(ht:zH P t)(hb:w.heap[b]? =some (.map es c))(hm:tU es l)(n x:Int):∃es' c',(Instr.mapUpdate t (.map (some b)) (.int .i64 n) (.int .i64 x)).run P w= .ok () {w with heap:=w.heap.setIfInBounds b (.map es' c')}∧tU es' (BO l n x):=by
 obtain⟨k,e,i,h1,h2,h3,h4⟩:=ht
 have hk:MapKept.IsKey (.int .i64) (.int .i64 n):=rfl
 have hf:=qA (es:=es.toList) (l:=l) hm n 0
 cases hq:lu l n with
 |none=>
  rw[hq]at hf
  refine⟨es.push {key:= .int .i64 n,val:= .int .i64 x,born:=c},c+1, ?_, ?_⟩
  ·simp[Instr.mapUpdate,run_underlying h1,MapKept.run_getObj_map hb,MapKept.run_checkKey h2 hk,MapKept.run_findKey h2 hf,Result.andThen,MapKept.run_setObj_map _ hb]
  ·have:=yC (es:=es.toList) (l:=l) hm (x:=x) c hq
   unfold tU
   rw[Array.toList_push];exact this
 |some v=>
  rw[hq]at hf
  obtain⟨e0,q1,q2⟩:=EP (es:=es.toList) (l:=l) hm hq
  have hj:es[z6 l n]? =some e0:=by simpa using q1
  refine⟨es.modify (z6 l n) fun e=>{e with key:= .int .i64 n,val:= .int .i64 x},c, ?_, ?_⟩
  ·simp[Instr.mapUpdate,run_underlying h1,MapKept.run_getObj_map hb,MapKept.run_checkKey h2 hk,MapKept.run_findKey h2 hf,hj,q2,MapKept.run_keyThatStays hk,Result.andThen,MapKept.run_setObj_map _ hb]
  ·have:=B4 (es:=es.toList) (l:=l) hm x hq
   unfold tU
   rw[Array.toList_modify];exact this
end
section
variable {X:Ctx} {S:St} {o:Oper}
theorem F0{κ:Nat→Nat→Option Value}{sv:Nat→Value}{a:Act}{w:World}(hs:dh X κ sv S a w){x:Operand}{s g:Nat}{l:List (Int×Int)}(hx:S.ev X x= .os s g)(hγ:S.γ s=g)(hσ:S.σ s= .mp l):
 ∃b es c,a.eval x= .map (some b)∧sv s= .map (some b)∧w.heap[b]? =some (.map es c)∧tU es l:=by
 have h1:=hs.ev x
 rw[hx]at h1
 have h2:=hs.wld.own s
 rw[hσ]at h2
 obtain⟨b,es,c,e1,e2,e3⟩:=h2
 generalize a.eval x=v at h1
 cases h1 with
 |os _ _ _ _ hh _=>exact⟨b,es,c,by rw[hh hγ.symm,e1],e1,e2,e3⟩
theorem JN{T:TypeId}{x y:Operand}{s g:Nat}{l:List (Int×Int)}{n:Int}(ht:zH X.Z.P T)(ho:o.op= .lookup T x y true)(hx:S.ev X x= .os s g)(hγ:S.γ s=g)(hσ:S.σ s= .mp l)(hy:S.ev X y= .int .i64 n):
 eu X o S (.tup [.int .i64 (IH l n), .bool (Jt l n)]):=fun κ sv a w hs=>by
 obtain⟨b,es,c,h1,h2,h3,h4⟩:=F0 hs hx hγ hσ
 have hyv:=hs.ev y
 rw[hy]at hyv
 generalize hye:a.eval y=v at hyv
 cases hyv
 refine⟨_, .tup _ _ (.cons _ _ _ _ (.int _ _) (.cons _ _ _ _ (.bool _) .nil)),fun w' hb=> ?_⟩
 have hb' :w'.heap[b]? =some (.map es c):=by rw[hb.block b (Array.getElem?_eq_some_iff.1 h3).1];exact h3
 simp[execOp,ho,h1,hye,BF ht hb' h4]
theorem CK{T:TypeId}{x y z:Operand}{s g:Nat}{l:List (Int×Int)}{n v:Int}(ht:zH X.Z.P T)(ho:o.op= .mapUpdate T x y z∨o.op= .insert T x y z)(hd:o.dst=none)(hx:S.ev X x= .os s g)(hγ:S.γ s=g)(hσ:S.σ s= .mp l)(hy:S.ev X y= .int .i64 n)(hz:S.ev X z= .int .i64 v):
 kX X o S ⟨S.ρ,S.γ,bM S.σ s (.mp (BO l n v))⟩:=fun κ sv a w hs=>by
 obtain⟨b,es,c,h1,h2,h3,h4⟩:=F0 hs hx hγ hσ
 have hyv:=hs.ev y
 rw[hy]at hyv
 generalize hye:a.eval y=yv at hyv
 cases hyv
 have hzv:=hs.ev z
 rw[hz]at hzv
 generalize hze:a.eval z=zv at hzv
 cases hzv
 obtain⟨es',c',r1,r2⟩:=BA ht h3 h4 n v
 have hgr:w.grownBy {w with heap:=w.heap.setIfInBounds b (.map es' c')} (some b):=by
  refine⟨rfl,rfl,rfl,by simp,fun k hk hne=> ?_⟩
  have:k≠b:=fun e=>hne (by rw[e])
  exact(MapKept.heap_set h3).2 k this
 have hblk:cw (S.σ s) (sv s)=some b:=by rw[hσ,h2];rfl
 rw[hd]
 refine⟨Go.undef,_,κ,sv, .inr ⟨?_,rfl⟩,⟨hs.size,iw hs s (by rw[hblk];exact hgr),hs.slot, ?_⟩⟩
 ·rcases ho with ho|ho<;>simp[execOp,ho,h1,hye,hze,r1,Result.andThen]
 ·refine hs.wld.rewrite s (.mp _) (by rw[hblk];exact hgr) (by rw[hσ,h2];rfl) ⟨b,es',c',h2,(MapKept.heap_set h3).1,r2⟩ _
theorem ma{P:Program}{w:World}{T e:TypeId}(hu:P.underlying T=some (.slice e))(a:Option Addr)(n c:Nat):(binOp .eql T (.slice a n c) (.slice none 0 0)).run P w= .ok (.bool a.isNone) w:=by
 have h:(Op.equal T (.slice a n c) (.slice none 0 0)).run P w= .ok a.isNone w:=by
  unfold Op.equal
  have:Op.maxDepth=9999+1:=rfl
  rw[this]
  unfold Op.equalIn
  simp only[Sem.run_bind,run_underlying hu,Result.andThen_ok]
  cases a<;>rfl
 have h2:binOp .eql T (.slice a n c) (.slice none 0 0)=(do pure (.bool (←Op.equal T (.slice a n c) (.slice none 0 0)))):=rfl
 rw[h2]
 simp[h]
theorem IN{Q:Exit→St→Prop}{ops:Array Oper}{rest:List Oper}{T T2:TypeId}{x y:Operand}{t:Nat}{z n:Nat}{f:Nat→List D}{r:TRow}(hg:o.guard=none)(ho:o.op= .binOp .eql T x y T2)(hd:o.dst=some t)(hr:nth X.Z.dS T=some r)(hk:Nat.beq r.k 3=true)(hx:S.ev X x= .sl z n f)(hy:S.ev X y= .nil)
 (ht:n=0→WL X ops rest Q (S.set t (.bool true)))(hf:WL X ops rest Q (S.set t (.bool false))):WL X ops (o::rest) Q S:=fun κ sv a w hs=>by
 have hu:=cZ (X.Z.tabOk _ _ hr (by intro e;rw[e]at hk;cases hk)) hk
 have h1:=hs.ev x
 rw[hx]at h1
 have h2:=hs.ev y
 rw[hy]at h2
 generalize hxe:a.eval x=xv at h1
 generalize hye:a.eval y=yv at h2
 cases h2
 cases h1 with
 |sl _ _ _ b off cap u q1 q2 q3 q4 q5=>
  refine wpListIn_plain hg fun K hK=>mR (v:= .bool false) (w' :=w) ?_ ?_
  ·simp[execOp,ho,hxe,hye,eqGuard,ma hu]
  ·rw[hd];exact hK _ _ (hf κ sv _ _ (hs.put (some t) (.bool _)))
 |sl0=>
  refine wpListIn_plain hg fun K hK=>mR (v:= .bool true) (w' :=w) ?_ ?_
  ·simp[execOp,ho,hxe,hye,eqGuard,ma hu]
  ·rw[hd];exact hK _ _ (ht rfl κ sv _ _ (hs.put (some t) (.bool _)))
 |slE _ _ ad cap=>
  refine wpListIn_plain hg fun K hK=>mR (v:= .bool false) (w' :=w) ?_ ?_
  ·simp[execOp,ho,hxe,hye,eqGuard,ma hu]
  ·rw[hd];exact hK _ _ (hf κ sv _ _ (hs.put (some t) (.bool _)))
theorem Hq{T:TypeId}{t:Nat}(ho:o.op= .makeMap T none)(hd:o.dst=some t):kX X o S ⟨bM S.ρ t (.os t (S.γ t+1)),bM S.γ t (S.γ t+1),bM S.σ t (.mp [])⟩:=fun κ sv a w hs=>by
 have hle:=dP κ S.γ sv t (.map (some w.heap.size))
 rw[hd]
 refine⟨.map (some w.heap.size),w.alloc (.map #[] 0),κ,bM sv t (.map (some w.heap.size)), .inl ?_, ?_⟩
 ·simp[execOp,ho,run_makeMap]
 ·refine⟨by rw[sH];exact hs.size,(iw hs t (World.grownBy_alloc w _ _)).put _ _, ?_, ?_⟩
  ·exact hs.zX hle (some t) (.os _ _ _ (by rw[aj];exact Nat.le_refl _) (fun _=>(aj _ _ _).symm) rfl)
  ·refine hs.wld.renew t (.mp []) _ (World.grownBy_alloc w _ _) (fun b hb=> ?_) ⟨w.heap.size, #[],0,aj _ _ _,(MapKept.heap_alloc w _).1,rfl⟩ _
   simp only[cw,Option.some.injEq]at hb
   exact .inl (by omega)
end
section
variable {F:Fence} {n:Nat} {P:Program} {Q:Exit→Act→World→Prop} {a:Act} {w:World} {b:Go.Frame} {k:List Item} {cs:List Go.Frame}
theorem gW{c:Code}:step P (lone (b.atR a (.code (.scope c)::k)) cs w)= .next (lone (b.atR a (.code c:: .inScope c::k)) cs w):=
 step_lone_go (by simp[stepG,stepG.exec,Frame.atR])
theorem xQ{c:Code}:step P (lone (b.atR a (.inScope c::k)) cs w)= .next (lone (b.atR a k) cs w):=
 step_lone_go (by simp[stepG,stepG.exec,Frame.atR])
theorem Eb{c:Code}(h:c.wpIn F n P (Exit.noGoto Q) a w):(Code.scope c).wpIn F n P Q a w:=by
 intro b k cs hro hb hr
 have h0:(lone (b.atR a (.code (.scope c)::k)) cs w).fenced P F:=fenced_calm hb hr rfl
 obtain⟨e,a₁,w₁,hq,harr⟩:=h b (.inScope c::k) cs hro hb hr
 cases e with
 |normal=>exact⟨.normal,a₁,w₁,hq, .head h0 gW (StepsIn.trans harr (.one (fenced_calm hb hr rfl) xQ))⟩
 |exit id=>
  have hx:exitTo id (.inScope c::k)=exitTo id k:=by simp[exitTo]
  exact⟨.exit id,a₁,w₁,hq,fun k' hk=> .head h0 gW (harr.1 k' (by rw[hx];exact hk)),
   fun hr' hk=>let⟨k₁,h1,h2⟩:=harr.2 hr' (by rw[hx];exact hk);⟨k₁,h1, .head h0 gW h2⟩⟩
 |goto l=>exact hq.elim
 |ret=>exact⟨_,a₁,w₁,hq, .of_steps (.one h0 gW) harr⟩
 |panic ch=>exact⟨_,a₁,w₁,hq, .of_steps (.one h0 gW) harr⟩
 |outgrown=>exact⟨_,a₁,w₁,hq, .of_steps (.one h0 gW) harr⟩
end
theorem LV{X:Ctx}{Q:Exit→St→Prop}{S:St}{c:Code}(h:W X c (fun e T=>match e with| .goto _=>False|e=>Q e T) S):W X (.scope c) Q S:=fun κ sv a w hs=>by
 refine Eb (wpIn_mono (h κ sv a w hs) ?_)
 rintro e a' w' ⟨κ',sv',S',h1,h2⟩
 cases e<;>first|exact h2.elim|exact⟨κ',sv',S',h1,h2⟩
theorem Lp{X:Ctx}{Q:Exit→St→Prop}{S:St}{l:Nat}(h:Q .normal S):W X (.label l) Q S:=fun κ sv _ _ hs=>wpIn_label ⟨κ,sv,S,hs,h⟩
end Go.Ab
