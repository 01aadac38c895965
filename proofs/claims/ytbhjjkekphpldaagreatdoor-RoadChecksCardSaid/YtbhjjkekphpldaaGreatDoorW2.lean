/- Walks by computing: what each function of the program that the laws reach gives for what it gets, as plain Lean, and that it is so; without a condition but those that stand in each theorem. -/
import Derived.Shelf.Abstract
import Derived.Test.YtbhjjkekphpldaaGreatDoorW1
set_option linter.all false
namespace Go.Ab
open Go Go.RowKit
section
variable {X:Ctx}{Q:Exit→St→Prop}{S S' S'':St}{kr kp:List Nat}{rs:List (Nat×D)}{gs:List (Nat×Nat)}{os:List (Nat×Own)}
end
def vV (P:Program) (f:Field):D→Bool
 | .int _ _ => f.name != "_" && (match P.underlying f.type with | some (.int _) => true | _ => false)
 | .bool _ => f.name != "_" && (match P.underlying f.type with | some .bool => true | _ => false)
 |_=>false
def k7 (P:Program):List Field→List D→Nat→Bool
 |[],[],_=>true
 |f::fs,d::ds,n=>vV P f d&&Nat.beq f.offset n&&k7 P fs ds (n+1)
 |_,_,_=>false
def pK (P:Program) (T:TypeId) (l:List D):Bool:=match P.underlying T with
 |some (.struct fs)=>!P.stoodInHeld T&&k7 P fs.toList l 0&&!P.eqGuardType P.depth T
 |_=>false
def fw:List D→List D→Option Bool
 |[],[]=>some true
 |.int k a::l,.int k' b::m=>match k == k',fw l m with|true,some r=>some (decide (a=b)&&r)|_,_=>none
 |.bool a::l,.bool b::m=>match fw l m with|some r=>some (a == b&&r)|none=>none
 |_,_=>none
section
variable {P:Program}{κ:Nat→Nat→Option Value}{γ:Nat→Nat}{sv:Nat→Value}
theorem Vk (w:World) (d:Nat):∀ (fs:List Field) (l m:List D) (xs ys:List Value) (pre qi:List Value) (b:Bool),aD κ γ sv l xs→aD κ γ sv m ys→pre.length=qi.length →
  k7 P fs l pre.length=true→fw l m=some b→(Op.eqFields (d+1) (pre++xs).toArray (qi++ys).toArray fs).run P w=.ok b w:=by
 intro fs
 induction fs with
 |nil =>
  intro l m xs ys pre qi b h1 h2 hp hf he
  cases l with
  |cons x l=>simp[k7]at hf
  |nil =>
   cases m with
   |nil=>simp[fw]at he;subst he;simp[Op.eqFields]
   |cons x m=>simp[fw]at he
 |cons f fs ih =>
  intro l m xs ys pre qi b h1 h2 hp hf he
  cases l with
  |nil=>simp[k7]at hf
  |cons x l =>
   simp only[k7,Bool.and_eq_true]at hf
   obtain ⟨⟨Ch,XM⟩,XN⟩:=hf
   have MQ:=Nat.eq_of_beq_eq_true XM
   cases m with
   |nil=>cases x<;>simp[fw]at he
   |cons y m =>
    cases h1 with
    |cons _ vx _ vxs r1 rs1 =>
     cases h2 with
     |cons _ vy _ vys r2 rs2 =>
      have key : ∀ (r b' : Bool), f.name ≠ "_" → P.plainKey f.type = true → fw l m = some b' → (Op.equalIn (d + 1) f.type vx vy).run P w = .ok r w → b = (r && b') → (Op.eqFields (d + 1) (pre ++ vx :: vxs).toArray (qi ++ vy :: vys).toArray (f :: fs)).run P w = .ok b w := by
       intro r b' hn hk bz hr hb
       have p1:(part f.type (pre++vx::vxs).toArray f.offset).run P w=.ok vx w:=run_part_plain w hk (by rw[MQ];simp)
       have p2:(part f.type (qi++vy::vys).toArray f.offset).run P w=.ok vy w:=run_part_plain w hk (by rw[MQ,hp];simp)
       have Fh:=ih l m vxs vys (pre++[vx]) (qi++[vy]) b' rs1 rs2 (by simp[hp]) (by rw[List.length_append];exact XN) bz
       simp only[List.append_assoc,List.singleton_append]at Fh
       simp only[Op.eqFields,hn,ne_eq,not_false_eq_true,if_true,Sem.run_bind,p1,p2,hr,Result.andThen_ok]
       cases r with
       |false=>simp[hb]
       |true=>simpa[hb] using Fh
      cases x<;>cases y<;>simp only[fw]at he<;>try (cases he;done)
      ·rename_i k1 a k2 c
       cases r1;cases r2
       simp only[vV,Bool.and_eq_true]at Ch
       obtain ⟨hn,hu⟩:=Ch
       cases oc:k1 == k2 with
       |false=>rw[oc]at he;simp at he
       |true =>
        have:k1=k2:=by simpa using oc
        subst this
        rw[oc]at he
        cases E5:fw l m with
        |none=>rw[E5]at he;cases he
        |some r =>
         rw[E5]at he
         simp only[Option.some.injEq]at he
         cases hT:P.underlying f.type with
         |none=>simp[hT]at hu
         |some dd =>
          cases dd<;>simp[hT]at hu
          refine key (a == c) r (by simpa using hn) (by simp[Program.plainKey,hT]) E5 (by simp[Op.equalIn,run_underlying hT]) (by rw[← he];first|rfl|simp)
      ·rename_i a c
       cases r1;cases r2
       simp only[vV,Bool.and_eq_true]at Ch
       obtain ⟨hn,hu⟩:=Ch
       cases E5:fw l m with
       |none=>rw[E5]at he;cases he
       |some r =>
        rw[E5]at he
        simp only[Option.some.injEq]at he
        cases hT:P.underlying f.type with
        |none=>simp[hT]at hu
        |some dd =>
         cases dd<;>simp[hT]at hu
         refine key (a == c) r (by simpa using hn) (by simp[Program.plainKey,hT]) E5 (by simp[Op.equalIn,run_underlying hT]) (by rw[← he])
theorem CB (w:World) (d:Nat) {T:TypeId}{l m:List D}{xs ys:List Value}{b:Bool} (hf:pK P T l=true) (h1:aD κ γ sv l xs) (h2:aD κ γ sv m ys) (he:fw l m=some b) :
  (Op.equalIn (d+2) T (.agg xs.toArray) (.agg ys.toArray)).run P w=.ok b w:=by
 unfold pK at hf
 cases hu:P.underlying T with
 |none=>simp[hu]at hf
 |some dd =>
  cases dd<;>simp only[hu]at hf<;>try (cases hf;done)
  rename_i fs
  simp only[Bool.and_eq_true,Bool.not_eq_true']at hf
  have MH:P.fieldsOf T=fs:=by simp[Program.fieldsOf,hu]
  rw[run_equalIn_struct w (d+1) T _ _ (by rw[MH];exact hu) hf.1.1,MH]
  exact Vk w d fs.toList l m xs ys [] [] b h1 h2 rfl hf.1.2 he
theorem T9 {T:TypeId}{l:List D} (hf:pK P T l=true):P.eqGuardType P.depth T=false:=by
 unfold pK at hf
 cases hu:P.underlying T with
 |none=>simp[hu]at hf
 |some dd =>
  cases dd<;>simp only[hu]at hf<;>try (cases hf;done)
  simp only[Bool.and_eq_true,Bool.not_eq_true']at hf
  exact hf.2
end
def kN (P:Program):List Field→List D→Nat→Bool
 |[],[],_=>true
 | f :: fs, l, n => f.name != "_" && pK P f.type (l.take (P.cellsOf f.type)) && Nat.beq f.offset n && Nat.beq (l.take (P.cellsOf f.type)).length (P.cellsOf f.type) && kN P fs (l.drop (P.cellsOf f.type)) (n + P.cellsOf f.type)
 |_,_,_=>false
def EL (P:Program) (T:TypeId) (l:List D):Bool:=match P.underlying T with
 |some (.struct fs)=>!P.stoodInHeld T&&kN P fs.toList l 0&&!P.eqGuardType P.depth T
 |_=>false
def ru (P:Program) (T:TypeId) (l:List D):Bool:=pK P T l || EL P T l
theorem zx:∀ (n:Nat) (l m:List D) (b:Bool),fw l m=some b→∃ b1 b2,fw (l.take n) (m.take n)=some b1∧fw (l.drop n) (m.drop n)=some b2∧b=(b1&&b2)
 |0,l,m,b,h=>⟨true,b,by simp[fw],by simpa using h,by simp⟩
 |n+1,[],[],b,h=>⟨true,true,by simp[fw],by simp[fw],by simp[fw]at h;subst h;rfl⟩
 |n+1,[],_::_,b,h=>by simp[fw]at h
 |n+1,x::l,[],b,h=>by cases x<;>simp[fw]at h
 |n+1,x::l,y::m,b,h=>by
  cases x<;>cases y<;>simp only[fw]at h<;>try (cases h;done)
  ·rename_i k1 a k2 c
   cases oc:k1 == k2 with
   |false=>rw[oc]at h;simp at h
   |true =>
    rw[oc]at h
    cases h2:fw l m with
    |none=>rw[h2]at h;cases h
    |some r =>
     rw[h2]at h
     simp only[Option.some.injEq]at h
     obtain ⟨b1,b2,q1,q2,q3⟩:=zx n l m r h2
     refine ⟨decide (a=c)&&b1,b2,?_,by simpa using q2,by rw[← h,q3,Bool.and_assoc]⟩
     simp only[List.take_succ_cons,fw,oc,q1]
  ·rename_i a c
   cases h2:fw l m with
   |none=>rw[h2]at h;cases h
   |some r =>
    rw[h2]at h
    simp only[Option.some.injEq]at h
    obtain ⟨b1,b2,q1,q2,q3⟩:=zx n l m r h2
    refine ⟨(a == c)&&b1,b2,?_,by simpa using q2,by rw[← h,q3,Bool.and_assoc]⟩
    simp only[List.take_succ_cons,fw,q1]
section
variable {P:Program}{κ:Nat→Nat→Option Value}{γ:Nat→Nat}{sv:Nat→Value}
theorem aD.SO:∀ {l:List D}{vs:List Value},aD κ γ sv l vs→∀ n,aD κ γ sv (l.drop n) (vs.drop n)
 |_,_,h,0=>by simpa using h
 |_,_,.nil,n+1=>by simpa using aD.nil
 |_,_,.cons d v l vs h1 h2,n+1=>by simpa using aD.SO h2 n
theorem vb (w:World) {T:TypeId}{l:List D} (hf:pK P T l=true) {pre xs:List Value}{off:Nat} (ho:off=pre.length) :
  (part T (pre++xs).toArray off).run P w=.ok (.agg (xs.take (P.cellsOf T)).toArray) w:=by
 unfold pK at hf
 cases hu:P.underlying T with
 |none=>simp[hu]at hf
 |some dd =>
  cases dd<;>simp only[hu]at hf<;>try (cases hf;done)
  obtain ⟨i,hi⟩:=info_of_underlying hu
  have hc:P.cellsOf T=i.size:=by simp[Program.cellsOf,hi]
  have he:((pre++xs).toArray.extract off (off+i.size))=(xs.take i.size).toArray:=by
   apply Array.ext'
   rw[Array.toList_extract]
   simp[List.extract,ho]
  rw[hc,← he]
  simp[part,isAgg,run_underlying hu,sizeOf,typeInfo,hi]
theorem Pr (w:World) (d:Nat):∀ (fs:List Field) (l m:List D) (xs ys:List Value) (pre qi:List Value) (b:Bool),aD κ γ sv l xs→aD κ γ sv m ys→pre.length=qi.length →
  kN P fs l pre.length=true→fw l m=some b→(Op.eqFields (d+2) (pre++xs).toArray (qi++ys).toArray fs).run P w=.ok b w:=by
 intro fs
 induction fs with
 |nil =>
  intro l m xs ys pre qi b h1 h2 hp hf he
  cases l with
  |cons x l=>simp[kN]at hf
  |nil =>
   cases m with
   |nil=>simp[fw]at he;subst he;simp[Op.eqFields]
   |cons x m=>simp[fw]at he
 |cons f fs ih =>
  intro l m xs ys pre qi b h1 h2 hp hf he
  simp only[kN,Bool.and_eq_true]at hf
  obtain ⟨⟨⟨⟨hn,Ch⟩,XM⟩,hf4⟩,XN⟩:=hf
  have MQ:=Nat.eq_of_beq_eq_true XM
  have hz:=Nat.eq_of_beq_eq_true hf4
  have hn : f.name ≠ "_" := by simpa using hn
  obtain ⟨b1,b2,q1,q2,q3⟩:=zx (P.cellsOf f.type) l m b he
  have dS:=(h1.take (P.cellsOf f.type)).length
  have Cm:(m.take (P.cellsOf f.type)).length=P.cellsOf f.type:=by
   have:∀ (l m:List D) (b:Bool),fw l m=some b→l.length=m.length:=by
    intro l
    induction l with
    |nil=>intro m b h;cases m<;>simp[fw]at h ⊢
    |cons x l z7 =>
     intro m b h
     cases m with
     |nil=>cases x<;>simp[fw]at h
     |cons y m =>
      have:∃ b',fw l m=some b':=by
       cases x<;>cases y<;>simp only[fw]at h<;>try (cases h;done)
       ·rename_i k1 a k2 c
        cases oc:k1 == k2<;>rw[oc]at h
        ·simp at h
        ·cases h2:fw l m with
         |none=>rw[h2]at h;cases h
         |some r=>exact⟨r,rfl⟩
       ·cases h2:fw l m with
        |none=>rw[h2]at h;cases h
        |some r=>exact⟨r,rfl⟩
      obtain ⟨b',bz⟩:=this
      simp[z7 m b' bz]
   rw[← this _ _ _ q1,hz]
  have dD:=(h2.take (P.cellsOf f.type)).length
  have p1:=vb (P:=P) w Ch (pre:=pre) (xs:=xs) (off:=f.offset) MQ
  have p2:=vb (P:=P) w Ch (pre:=qi) (xs:=ys) (off:=f.offset) (by rw[MQ,hp])
  have hr:=CB (P:=P) w d Ch (h1.take _) (h2.take _) q1
  have Fh:=ih (l.drop (P.cellsOf f.type)) (m.drop (P.cellsOf f.type)) (xs.drop (P.cellsOf f.type)) (ys.drop (P.cellsOf f.type)) (pre++xs.take (P.cellsOf f.type)) (qi++ys.take (P.cellsOf f.type)) b2 (h1.SO _) (h2.SO _)
   (by rw[List.length_append,List.length_append,dS,dD,hz,Cm,hp]) (by rw[List.length_append,dS,hz];exact XN) q2
  simp only[List.append_assoc,List.take_append_drop]at Fh
  simp only[Op.eqFields,hn,ne_eq,not_false_eq_true,if_true,Sem.run_bind,p1,p2,hr,Result.andThen_ok]
  cases b1 with
  |false=>simp[q3]
  |true=>simpa[q3] using Fh
theorem AM (w:World) (d:Nat) {T:TypeId}{l m:List D}{xs ys:List Value}{b:Bool} (hf:ru P T l=true) (h1:aD κ γ sv l xs) (h2:aD κ γ sv m ys) (he:fw l m=some b) :
  (Op.equalIn (d+3) T (.agg xs.toArray) (.agg ys.toArray)).run P w=.ok b w:=by
 unfold ru at hf
 rw[Bool.or_eq_true]at hf
 rcases hf with hf|hf
 ·exact CB w (d+1) hf h1 h2 he
 unfold EL at hf
 cases hu:P.underlying T with
 |none=>simp[hu]at hf
 |some dd =>
  cases dd<;>simp only[hu]at hf<;>try (cases hf;done)
  rename_i fs
  simp only[Bool.and_eq_true,Bool.not_eq_true']at hf
  have MH:P.fieldsOf T=fs:=by simp[Program.fieldsOf,hu]
  rw[run_equalIn_struct w (d+2) T _ _ (by rw[MH];exact hu) hf.1.1,MH]
  exact Pr w d fs.toList l m xs ys [] [] b h1 h2 rfl hf.1.2 he
theorem Cc {T:TypeId}{l:List D} (hf:ru P T l=true):P.eqGuardType P.depth T=false:=by
 unfold ru at hf
 rw[Bool.or_eq_true]at hf
 rcases hf with hf|hf
 ·exact T9 hf
 unfold EL at hf
 cases hu:P.underlying T with
 |none=>simp[hu]at hf
 |some dd =>
  cases dd<;>simp only[hu]at hf<;>try (cases hf;done)
  simp only[Bool.and_eq_true,Bool.not_eq_true']at hf
  exact hf.2
end
section
variable {X:Ctx}{S:St}{o:Oper}{T T2:TypeId}{x y:Operand}
theorem tk {κ:Nat→Nat→Option Value}{sv:Nat→Value}{a:Act}{w:World} (hs:bk X κ sv S a w) {l:List D} (h:S.ev X x=.agg l):∃ vs,a.eval x=.agg vs.toArray∧aD κ S.γ sv l vs:=by
 have h1:=hs.ev x
 rw[h]at h1
 generalize a.eval x=v at h1
 cases h1 with
 |agg _ vs hv=>exact⟨vs,rfl,hv⟩
theorem anR {l m:List D}{b:Bool} (ho:o.op=.binOp .eql T x y T2) (hx:S.ev X x=.agg l) (hy:S.ev X y=.agg m) (he:fw l m=some b) (hf:ru X.Z.P T l=true):dy X o S (.bool b):=fun κ sv a w hs=>by
 obtain ⟨xs,e1,r1⟩:=tk hs hx
 obtain ⟨ys,e2,r2⟩:=tk hs hy
 refine ⟨.bool b,.bool _,fun w' _=>?_⟩
 have:=AM (P:=X.Z.P) w' 9997 hf r1 r2 he
 simp[execOp,ho,e1,e2,eqGuard,binOp,Op.equal,Op.maxDepth,this,Cc hf]
theorem an8 {l m:List D}{b:Bool} (ho:o.op=.binOp .neq T x y T2) (hx:S.ev X x=.agg l) (hy:S.ev X y=.agg m) (he:fw l m=some b) (hf:ru X.Z.P T l=true):dy X o S (.bool (!b)):=fun κ sv a w hs=>by
 obtain ⟨xs,e1,r1⟩:=tk hs hx
 obtain ⟨ys,e2,r2⟩:=tk hs hy
 refine ⟨.bool (!b),.bool _,fun w' _=>?_⟩
 have:=AM (P:=X.Z.P) w' 9997 hf r1 r2 he
 simp[execOp,ho,e1,e2,eqGuard,binOp,Op.equal,Op.maxDepth,this,Cc hf]
end
section
variable {X:Ctx}{Q:Exit→St→Prop}{S S':St}{ops:Array Oper}{o:Oper}{rest:List Oper}{T:TypeId}{r q:dM}
theorem akU {ps:Array (Nat×Operand)}{t z:Nat}{E:TypeId} (f:Nat→List D) (ho:o.op=.buildSlice T 0 ps) (hd:o.dst=some t) (yp:ps=#[])
  (hr:nth X.Z.bL T=some r) (hk:Nat.beq r.k 3=true) (hE:r.el=E) (hq:nth X.Z.bL E=some q) (dF:Nat.beq q.k 9=false) (hz:q.sz=z) :
  kf X o S (S.owned t t (.arr E z 0 f)):=fun κ sv a w hs=>by
 have fY:=X.Z.bG _ _ hr (by intro e;rw[e]at hk;cases hk)
 have dx:=X.Z.bG _ _ hq (by intro e;rw[e]at dF;cases dF)
 obtain ⟨iq,dq,jA,uH,kB,pO,⟨zv,j0,oe⟩,_⟩:=du dx
 have hu:=dp fY hk
 rw[hE]at hu
 have bX:(execOp a.eval o).run X.Z.P w=.ok (.value (.slice (some ⟨w.heap.size,0,none⟩) 0 0)) (w.alloc (.cells #[] E)):=by
  have iK:(Array.range 0).map (fun _=>(default:Value))=#[]:=by
   apply Array.eq_empty_of_size_eq_zero;simp
  simp[execOp,ho,yp,Instr.buildSlice,run_underlying hu,sizeOf,typeInfo,jA,newRow,Instr.fill,iK]
 have bz:Below w.heap.size w (w.alloc (.cells #[] E)):=(Below.refl _ _).alloc (Nat.le_refl _) _
 rw[hd]
 refine ⟨_,_,κ,_,.inl bX,fk hs t t (pv:=.slice (some ⟨w.heap.size,0,none⟩) 0 0) rfl (cL bz _) (fun b hb=>by simp only[aL,Option.some.injEq]at hb;exact .inl (by omega)) ?_⟩
 refine ⟨[],by rw[aC];exact⟨by simp,.inr ⟨w.heap.size,0,0,#[],rfl,(hs.aJ.lT _),heap_alloc_new w _,Nat.le_refl _,Nat.zero_le _,by simp,by simp⟩⟩,fun i h=>by omega,fun i h=>by omega,fun i h=>by omega⟩
theorem akV {ps:Array (Nat×Operand)}{n z t:Nat}{xs:List Operand}{E:TypeId}{cs:List (List D)} (ho:o.op=.buildSlice T n ps) (hd:o.dst=some t) (kB:AS 0 ps.toList=some xs) (hn:Nat.beq xs.length n=true)
  (hr:nth X.Z.bL T=some r) (hk:Nat.beq r.k 3=true) (hE:r.el=E) (hq:nth X.Z.bL E=some q) (dF:Nat.beq q.k 9=false) (hz:q.sz=z) (iK:Nat.beq z 0=false) (yo:Nat.beq n 0=false) (QW:Nat.ble (n * z) 16777216=true) (hc:nL X S xs=cs) (cj:IF z cs=true) :
  kf X o S (S.owned t t (.arr E z n (vG cs))):=fun κ sv a w hs=>by
 subst hc
 obtain ⟨bX,gT⟩:=RD hs ho kB hn hr hk hE hq dF hz iK yo QW cj
 obtain ⟨cq,iW⟩:=Bo hs cj
 have hlen:xs.length=n:=Nat.eq_of_beq_eq_true hn
 have jK:0<z:=by
  cases z with
  |zero=>cases iK
  |succ z=>omega
 have hle:n * z≤16777216:=Nat.le_of_ble_eq_true QW
 have hnz:n≤n * z:=Nat.le_mul_of_pos_right n jK
 have bz:Below w.heap.size w (w.alloc (.cells ((xs.map a.eval).map (·.cells.toList)).flatten.toArray E)):=(Below.refl _ _).alloc (Nat.le_refl _) _
 rw[hd]
 refine ⟨_,_,κ,_,.inl bX,fk hs t t (pv:=.slice (some ⟨w.heap.size,0,none⟩) n n) rfl (cL bz _) (fun b hb=>by simp only[aL,Option.some.injEq]at hb;exact .inl (by omega)) ?_⟩
 have zS:∀ i,i<n→∃ c,nth (nL X S xs) i=some c∧vG (nL X S xs) i=c:=by
  intro i hi
  rw[eU]
  have:i<(nL X S xs).length:=by rw[xp,hlen];exact hi
  exact⟨(nL X S xs)[i],by simp[this],by simp[vG,eU,this]⟩
 refine ⟨((xs.map a.eval).map (·.cells.toList)).flatten,by rw[aC];exact⟨gT,.inr ⟨w.heap.size,0,n,((xs.map a.eval).map (·.cells.toList)).flatten.toArray,rfl,(hs.aJ.lT _),heap_alloc_new w _,Nat.le_refl _,by unfold maxLen;omega,by rw[List.size_toArray,gT];omega,by rw[List.drop_zero,List.take_of_length_le (by simp only[List.toList_toArray];omega)]⟩⟩,fun i hi=>?_,fun i hi=>?_,fun i hi=>?_⟩
 ·obtain ⟨c,h1,h2⟩:=zS i hi;rw[h2];exact(cq i c h1).1
 ·obtain ⟨c,h1,h2⟩:=zS i hi;rw[h2];exact(cq i c h1).2.1
 ·obtain ⟨c,h1,h2⟩:=zS i hi
  obtain ⟨_,_,v,h3,h4⟩:=cq i c h1
  rw[h2]
  have hch:((((xs.map a.eval).map (·.cells.toList)).flatten).drop (i * z)).take z=v.cells.toList:=by
   apply List.ext_getElem?
   intro j
   rw[List.getElem?_take]
   split
   ·rename_i hj
    rw[List.getElem?_drop,qM _ (z:=z) (fun c hc=>by
     obtain ⟨v,hv,rfl⟩:=List.mem_map.1 hc
     simpa using (iW v hv).1) i j hj]
    rw[List.getElem?_map,h3];rfl
   ·rename_i hj
    have hv:v∈xs.map a.eval:=List.mem_of_getElem? h3
    have:=(iW v hv).1
    rw[List.getElem?_eq_none (by simp at this ⊢;omega)]
  rw[hch]
  exact h4.mono (eY κ S.γ sv t _)
theorem HG (t i j:Nat) {s g E z n E2 z2 n2:Nat}{f f2 WV:Nat→List D}{l0 l':List D} (MZ:S.σ t=.arr E2 z2 n2 f2) (cx:Nat.beq t s=false) (hi:i<n2) (h0:f2 i=l0) (hl:nth l0 j=some (.os s g)) (hg:S.γ s=g) (aF:S.σ s=.arr E z n f) (ir:iy l0 j [.sl z n f]=some l') (hf:∀ k,k<n2→WV k=if k=i then l' else f2 k) (wg:X.xa s=false:=by rfl) :
  Wk X S ⟨S.ρ,S.γ,aG (aG S.σ s .none) t (.arr E2 z2 n2 WV)⟩:=fun κ sv a w hs=>by
 have hle:=rO hs.aJ s
 subst h0
 have cx:t≠s:=fun e=>by rw[e,Nat.beq_refl]at cx;cases cx
 have hW:=hs.aJ.freeze s (Gv hs.aJ aF wg) S.ρ
 obtain ⟨aaN,hlen⟩:=ng ir
 have aP:=hW.own t
 simp only[bh _ _ _ _ cx,MZ]at aP
 obtain ⟨xs,e1,e2,e3,e4⟩:=aP
 have fK:cE X (fun b o=>if aL (S.σ s) (sv s)=some b then w.cell? ⟨b,o,none⟩ else κ b o) sv ⟨S.ρ,S.γ,aG (aG S.σ s .none) t (.arr E2 z2 n2 WV)⟩ w:=by
  refine hW.rewrite t (.arr E2 z2 n2 WV) (cL (Below.refl _ _) _) (by
   simp only[bh _ _ _ _ cx,MZ]
   cases sv t with
   |pointer a=>cases a<;>rfl
   |slice a=>cases a<;>rfl
   |map a=>cases a<;>rfl
   |_=>rfl) ⟨xs,e1,fun k hk=>?_,fun k hk=>?_,fun k hk=>?_⟩ _
  ·rw[hf k hk]
   split
   ·rename_i h;subst h;rw[aaN];have:=e2 k hk;simp at hlen ⊢;omega
   ·exact e2 k hk
  ·rw[hf k hk]
   split
   ·rename_i h;subst h;rw[aaN];exact ga (ga (pG (e3 k hk) _) rfl) (pE (e3 k hk) _)
   ·exact e3 k hk
  ·rw[hf k hk]
   split
   ·rename_i h
    subst h
    rw[aaN]
    have e3':=e4 k hk
    rw[eU]at hl
    obtain ⟨vj,Fl,wb⟩:=e3'.get hl
    generalize (xs.drop (k * z2)).take z2=cs at e3' Fl
    have mT:j<cs.length:=(List.getElem?_eq_some_iff.1 Fl).1
    have jZ:cs=cs.take j++[vj]++cs.drop (j+1):=by
     have h3:cs[j]=vj:=by simpa[List.getElem?_eq_getElem mT] using Fl
     rw[← h3,List.append_assoc,List.singleton_append,List.getElem_cons_drop,List.take_append_drop]
    rw[jZ]
    refine ((e3'.take j).append (.cons _ _ _ _ ?_ .nil)).append (e3'.drop _)
    have hv:vj=sv s:=by
     cases wb with
     |os _ _ _ _ hh _=>exact hh hg.symm
    rw[hv]
    exact sL hs.aJ aF hle (fun b o v hb hc=>by simp[hb,hc])
   ·exact e4 k hk
 exact⟨_,sv,⟨hs.size,hs.defers,fun i hi=>(hs.slot i hi).mono hle,fK⟩⟩
theorem RU (t j s:Nat) (E z:Nat) (f:Nat→List D) {l l':List D} (MZ:S.σ t=.box l) (cx:Nat.beq t s=false) (hs0:S.σ s=.none) (hl:nth l j=some .nil) (ir:iy l j [.os s (S.γ s+1)]=some l') :
  Wk X S ⟨S.ρ,aG S.γ s (S.γ s+1),aG (aG S.σ s (.arr E z 0 f)) t (.box l')⟩:=fun κ sv a w hs=>by
 have cx:t≠s:=fun e=>by rw[e,Nat.beq_refl]at cx;cases cx
 obtain ⟨rfl,hlen⟩:=ng ir
 have hle:=eY κ S.γ sv s (.slice none 0 0)
 have hW:=hs.aJ.renew s (.arr E z 0 f) (.slice none 0 0) (cL (Below.refl _ _) _) (fun b hb=>by cases hb)
   ⟨[],by rw[aC];exact qd _ _ _ _,fun _ h=>by omega,fun _ h=>by omega,fun _ h=>by omega⟩ S.ρ
 refine ⟨κ,aG sv s (.slice none 0 0),⟨hs.size,hs.defers,fun i hi=>(hs.slot i hi).mono hle,?_⟩⟩
 have aP:=hW.own t
 simp only[bh _ _ _ _ cx,MZ]at aP
 obtain ⟨b,Tb,cs,e1,e2,e3,e4⟩:=aP
 refine hW.rewrite t (.box _) (cL (Below.refl _ _) _) (by simp only[bh _ _ _ _ cx,MZ]at e1 ⊢;rw[e1];rfl) ⟨b,Tb,cs,e1,e2,?_,?_⟩ _
 ·rw[eU]at hl
  obtain ⟨vj,Fl,wb⟩:=e3.get hl
  have mT:j<cs.length:=(List.getElem?_eq_some_iff.1 Fl).1
  have jZ:cs=cs.take j++[vj]++cs.drop (j+1):=by
   have h3:cs[j]=vj:=by simpa[List.getElem?_eq_getElem mT] using Fl
   rw[← h3,List.append_assoc,List.singleton_append,List.getElem_cons_drop,List.take_append_drop]
  rw[jZ]
  refine ((e3.take j).append (.cons _ _ _ _ ?_ .nil)).append (e3.drop _)
  cases wb
  exact .os _ _ _ (by rw[aC];exact Nat.le_refl _) (fun _=>by rw[aC]) rfl
 ·exact⟨ga (ga (pG e4.1 _) rfl) (pE e4.1 _),fun T0 e=>e4.2 T0 (abe rfl _ _ _ _ e)⟩
theorem I5 (f:Nat→List D) (i:Nat) (l:List D):qn f i l i=l:=by simp[qn]
theorem RT (f:Nat→List D) {i k:Nat} (l:List D) (h:k≠i):qn f i l k=f k:=by simp[qn,h]
end
section
variable {X:Ctx}{S:St}{o:Oper}{x:Operand}
end
section
variable {X:Ctx}{S:St}{rs:List ResultVar}
end
section
variable {X:Ctx}{S S':St}{rs:List ResultVar}{R:D}{e:Exit}
end
section
variable {X:Ctx}{S:St}{o:Oper}{T:TypeId}{r q:dM}
end
end Go.Ab
namespace Go.Ab
open Go Go.RowKit Go.Shelf
def lW (T:Nat→Prop) (W W':World):Nat→Prop:=fun b=>T b∨(W.heap.size≤b∧b<W'.heap.size)
structure Kept (T:Nat→Prop) (κ:Nat→Nat→Option Value) (W W':World):Prop where
 size:W.heap.size≤W'.heap.size
 Hm:∀ b,T b→W'.heap[b]?=W.heap[b]?
 cell:∀ b o v,κ b o=some v→W'.cell? ⟨b,o,none⟩=some v
 row:∀ b o v,κ b o=some v→W'.heap[b]?=W.heap[b]?
def la (T G:Nat→Prop):Nat→Prop:=fun b=>T b∧¬ G b
structure DZ (T G:Nat→Prop) (κ ot:Nat→Nat→Option Value) (W:World) (bE:List D) (vs:List Value):Prop where
 Hm:∀ b,G b→T b
 Ua:∀ b o v,ot b o=some v→(κ b o=some v∨G b)∧W.cell? ⟨b,o,none⟩=some v
 rep:aD ot gO eV bE vs
structure Kz (Z:Seat) (gf:FuncId) (cap:List D) (n:Nat) (bE:Nat→List D):Prop where
 body:gD Z.P gf
 Kg:∀ k,k<n→ab (bE k)
 anL:ab cap
 it:∀ (w:World) (κ:Nat→Nat→Option Value) (lb:List Value),Fits κ w→iA Z κ w→aD κ gO eV cap lb→∀ (l:Nat) (J Jx:(Nat→Prop)→Nat→World→Prop),
  (∀ T k W W',J T k W→Step T W W'→J (lW T W W') k W') →
  (∀ T k W W',Jx T k W→Step T W W'→Jx (lW T W W') k W') →
  (∀ T k W vs G ot,J T k W→k<n→(∀ b o v,κ b o=some v→W.cell? ⟨b,o,none⟩=some v)→DZ T G κ ot W (bE k) vs→YieldAt Fence.wide 0 Z.P l vs.toArray W fun e W' =>
   ((e=.returned (.bool true)∧J (la T G) (k+1) W')∨(e=.returned (.bool false)∧Jx (la T G) (k+1) W'))∧Kept (la T G) κ W W') →
  J (fun _=>False) 0 w →
  CallsIn Fence.wide 0 Z.P gf (Value.func (.yield l) #[] #[]::lb).toArray w fun e W'=>(∃ v,e=.returned v)∧((∃ T,J T n W')∨(∃ T k,k≤n∧Jx T k W'))
def uQ (w0:World) (ext:Option Nat) (T:Nat→Prop) (wT:World) (M:Nat→Prop) (w:World):Prop :=
 (∃ M',j5 w0 ext M' w∧∀ b,M b→M' b)∧(∀ b,M b→¬ T b)∧(∀ b,T b→b<wT.heap.size∧w.heap[b]?=wT.heap[b]?)∧wT.heap.size≤w.heap.size
theorem wB (Z:Seat) (w0:World) (ext:Option Nat) (T:Nat→Prop) (wT:World):∀ M w,uQ w0 ext T wT M w→∀ g n,Z.zM g=some n→g<w0.heap.size→ext≠some g→¬ (fun _:Nat=>False) g→jH w0 g n→jH w g n:=fun M w h g n hn hk he hx hr=>by
 obtain ⟨⟨M',h1,_⟩,_⟩:=h
 exact Dy Z w0 ext M' w h1 g n hn hk he hx hr
theorem wA (w0:World) (ext:Option Nat) (T:Nat→Prop) (wT:World):∀ M w w',uQ w0 ext T wT M w→Step M w w'→uQ w0 ext T wT (fun k=>M k∨w.heap.size≤k) w':=by
 rintro M w w' ⟨⟨M',h1,h2⟩,h3,h4,h5⟩ hs
 refine ⟨⟨_,Dx w0 ext M' w w' h1 ⟨hs.os,hs.tape,hs.output,hs.size,fun k hk hm=>hs.block k hk fun h=>hm (h2 k h)⟩,fun b hb=>hb.imp (h2 b) id⟩,fun b hb hT=>?_,fun b hT=>?_,Nat.le_trans h5 hs.size⟩
 ·rcases hb with hb|hb
  ·exact h3 b hb hT
  ·have:=(h4 b hT).1;omega
 ·obtain ⟨e1,e2⟩:=h4 b hT
  exact⟨e1,(hs.block b (by omega) (fun hm=>h3 b hm hT)).trans e2⟩
section
variable {Z:Seat}{nt:Nat}{w0:World}{fg nR:Nat→Nat→Option Value}{ext:Option Nat}{kY:Nat→Nat}{ny:Nat→Value}{T:Nat→Prop}
theorem cE.other {κ:Nat→Nat→Option Value}{sv:Nat→Value}{S:St}{W W':World}{ro:Option Nat}{cl:_}{fr:_} (h:cE ⟨Z,nt,w0,fg,ext,fun _=>False,nR,kY,ny,T,false,ro,j5 w0 ext,cl,fr,fun _=>false⟩ κ sv S W) (hs:Step T W W') (hT:∀ b,T b→w0.heap.size≤b) :
  cE ⟨Z,nt,w0,fg,ext,fun _=>False,nR,kY,ny,lW T W W',false,ro,j5 w0 ext,cl,fr,fun _=>false⟩ κ sv S W':=by
 obtain ⟨h1,h2,h3,h4,h5,⟨M,h6,vX⟩,h7,h8,h9,fT,iD,jz,jm,gK,kA⟩:=h
 have cz:∀ b o v,κ b o=some v→b<W.heap.size:=fun b o v hk=>by have:=World.block_lt_of_cell? W _ (h1 b o v hk);simpa using this
 refine ⟨fun b o v hk=>?_,fun s=>dZ (Le.refl _ _ _) rfl (fun b hb=>hs.block b (cP (h2 s) hb) (jm s b hb)) (h2 s),h3,h4,h5,⟨M,?_,vX⟩,h7,h8,h9,Nat.le_trans fT hs.size,iD,fun b o v hk tv=>?_,fun s b hb tv=>?_,fun b tv=>?_,kA⟩
 ·rw[World.cell?_of_block (hs.block b (cz b o v hk) (jz b o v hk))];exact h1 b o v hk
 ·refine ⟨⟨hs.os.trans h6.1.os,hs.tape.trans h6.1.tape,hs.output.trans h6.1.output,Nat.le_trans h6.1.size hs.size,fun k hk he=>?_⟩,h6.2⟩
  exact(hs.block k (Nat.lt_of_lt_of_le hk h6.1.size) (fun hm=>by have:=hT k hm;omega)).trans (h6.1.block k hk he)
 ·rcases tv with tv|⟨tv,_⟩
  ·exact jz b o v hk tv
  ·have:=cz b o v hk;omega
 ·rcases tv with tv|⟨tv,_⟩
  ·exact jm s b hb tv
  ·have:=cP (h2 s) hb;omega
 ·rcases tv with tv|⟨_,tv⟩
  ·exact Nat.lt_of_lt_of_le (gK b tv) hs.size
  ·exact tv
theorem cE.BG {κ:Nat→Nat→Option Value}{sv:Nat→Value}{S:St}{W W':World}{nd nd':Bool}{ro ro':Option Nat}{Φ CD:(Nat→Prop)→World→Prop}{cl:_}{Ec:_}{fr:_}{EP:_}{T':Nat→Prop}{amS:Nat→Nat→Option Value}{amP:Nat→Nat}{al4:Nat→Value}
  (h:cE ⟨Z,nt,w0,fg,ext,fun _=>False,nR,kY,ny,T,nd,ro,Φ,cl,fr,fun _=>false⟩ κ sv S W) {D:Nat} (hg:W.grownBy W' (some D)) (hn:∃ o:Obj,W.heap[D]?=some o∧ov o=false)
  (hΦ:∀ M,Φ M W→(∀ s b,aL (S.σ s) (sv s)=some b→M b)→∃ M',CD M' W'∧∀ s b,aL (S.σ s) (sv s)=some b→M' b) (hT:∀ b,T' b→T b) (hle:Le amS κ amP S.γ al4 sv) :
  cE ⟨Z,nt,w0,fg,ext,fun _=>False,amS,amP,al4,T',nd',ro',CD,Ec,EP,fun _=>false⟩ κ sv S W':=by
 obtain ⟨h1,h2,h3,h4,h5,⟨M,h6,vX⟩,h7,h8,h9,fT,iD,jz,jm,gK,kA⟩:=h
 obtain ⟨o0,XS,Ip⟩:=hn
 have cx:∀ s b,aL (S.σ s) (sv s)=some b→W'.heap[b]?=W.heap[b]?:=fun s b hb=>hg.block b (cP (h2 s) hb) (fun e=>by
  obtain ⟨o,e1,e2⟩:=qf (h2 s) hb
  simp only[Option.some.injEq]at e
  subst e
  rw[XS]at e1;cases e1;rw[Ip]at e2;cases e2)
 exact⟨fun b o v hk=>cell_kept (h1 b o v hk) hg (fun r e=>by cases e;exact⟨o0,XS,M8 Ip⟩),fun s=>dZ (Le.refl _ _ _) rfl (cx s) (h2 s),h3,h4,h5,hΦ M h6 vX,h7,h8,h9,Nat.le_trans fT hg.size,hle,
  fun b o v hk hb=>jz b o v hk (hT b hb),fun s b hb bz=>jm s b hb (hT b bz),fun b hb=>Nat.lt_of_lt_of_le (gK b (hT b hb)) hg.size,kA⟩
def sN (κ ot:Nat→Nat→Option Value):Nat→Nat→Option Value:=fun b o=>match κ b o with|some v=>some v|none=>ot b o
theorem cE.more {κ ot:Nat→Nat→Option Value}{sv:Nat→Value}{S:St}{W:World}{G:Nat→Prop}{bE:List D}{vs:List Value}{cl:_}{fr:_} (h:cE ⟨Z,nt,w0,fg,ext,fun _=>False,nR,kY,ny,T,false,none,j5 w0 ext,cl,fr,fun _=>false⟩ κ sv S W) (hT:∀ b,T b→w0.heap.size≤b) (hg:DZ T G nR ot W bE vs) :
  cE ⟨Z,nt,w0,fg,ext,fun _=>False,nR,kY,ny,la T G,false,none,j5 w0 ext,cl,fr,fun _=>false⟩ (sN κ ot) sv S W∧(∀ b o v,ot b o=some v→sN κ ot b o=some v):=by
 obtain ⟨h1,h2,h3,h4,h5,h6,h7,h8,h9,fT,iD,jz,jm,gK,kA⟩:=h
 have hle:Le κ (sN κ ot) S.γ S.γ sv sv:=⟨fun b o v hk=>by simp only[sN,hk],fun _=>Nat.le_refl _,fun _ _=>rfl⟩
 have ee:∀ b o v,sN κ ot b o=some v→κ b o=some v∨(κ b o=none∧ot b o=some v∧G b):=fun b o v hk=>by
  unfold sN at hk
  cases hq:κ b o with
  |some u=>rw[hq]at hk;exact .inl hk
  |none =>
   rw[hq]at hk
   rcases (hg.Ua b o v hk).1 with h|h
   ·have:=iD.cells b o v h;rw[hq]at this;cases this
   ·exact .inr ⟨rfl,hk,h⟩
 refine ⟨⟨fun b o v hk=>?_,fun s=>dZ hle rfl (fun _ _=>rfl) (h2 s),h3,fun s b o hs=>?_,h5,h6,fun g l hl=>?_,fun b o v hb hk=>?_,h9,fT,iD.trans hle,fun b o v hk hq=>?_,fun s b hb hq=>jm s b hb hq.1,fun b hb=>gK b hb.1,kA⟩,fun b o v hk=>?_⟩
 ·rcases ee b o v hk with h|⟨_,h,_⟩
  ·exact h1 b o v h
  ·exact(hg.Ua b o v h).2
 ·cases hq:sN κ ot b o with
  |none=>rfl
  |some v =>
   rcases ee b o v hq with h|⟨_,_,h⟩
   ·rw[h4 s b o hs]at h;cases h
   ·exact absurd (hg.Hm b h) (jm s b hs)
 ·obtain ⟨hc,u,hu,hk⟩:=h7 g l hl
  exact⟨hc,u,hu.mono hle,fun j v hj=>hle.cells _ _ _ (hk j v hj)⟩
 ·rcases ee b o v hk with h|⟨_,_,h⟩
  ·exact h8 b o v hb h
  ·have:=hT b (hg.Hm b h)
   have hb:b<w0.heap.size:=hb
   omega
 ·rcases ee b o v hk with h|⟨_,_,h⟩
  ·exact jz b o v h hq.1
  ·exact hq.2 h
 ·unfold sN
  cases hq:κ b o with
  |none=>exact hk
  |some u =>
   have e1:=h1 b o u hq
   rw[(hg.Ua b o v hk).2]at e1
   exact e1.symm
def rD (ρ:Nat→D):List Nat→List D→Nat→D
 |t::ts,d::ds=>rD (aG ρ t d) ts ds
 |_,_=>ρ
theorem I1 {κ:Nat→Nat→Option Value}{γ:Nat→Nat}{sv:Nat→Value}:∀ (ts:List Nat) (ds:List D) (vs:List Value) (ρ:Nat→D) (tm:Array Value),aD κ γ sv ds vs→(∀ i,i<nt→aW κ γ sv (ρ i) (tm.getD i Go.undef))→tm.size=nt →
  (∀ i,i<nt→aW κ γ sv (rD ρ ts ds i) (((ts.zip vs).foldl (fun (t:Array Value) (x:Nat×Value)=>t.setIfInBounds x.1 x.2) tm).getD i Go.undef))∧((ts.zip vs).foldl (fun (t:Array Value) (x:Nat×Value)=>t.setIfInBounds x.1 x.2) tm).size=nt
 |[],_,_,_,_,_,h,hz=>⟨h,hz⟩
 |t::ts,_,_,ρ,tm,.nil,h,hz=>⟨h,hz⟩
 |t::ts,_,_,ρ,tm,.cons d v ds vs h1 h2,h,hz=>by
  simp only[rD,List.zip_cons_cons,List.foldl_cons]
  refine I1 ts ds vs (aG ρ t d) (tm.setIfInBounds t v) h2 (fun i hi=>?_) (by simpa using hz)
  rw[Df]
  by_cases e:t=i
  ·subst e;rw[if_pos ⟨rfl,by omega⟩,aC];exact h1
  ·rw[if_neg (fun h=>e h.1),bh _ _ _ _ (fun h=>e h.symm)];exact h i hi
def nv (Z:Seat) (nt:Nat) (w0:World) (fg:Nat→Nat→Option Value) (ext:Option Nat) (nR:Nat→Nat→Option Value) (kY:Nat→Nat) (ny:Nat→Value) (T:Nat→Prop) (l:Nat) (Φ:(Nat→Prop)→World→Prop) (cl:∀ M w w',Φ M w→Step M w w'→Φ (fun k=>M k∨w.heap.size≤k) w') (fr:∀ M w,Φ M w→∀ g n,Z.zM g=some n→g<w0.heap.size→ext≠some g→¬ (fun _:Nat=>False) g→jH w0 g n→jH w g n):Ctx :=
 ⟨Z,nt,w0,fg,ext,fun _=>False,nR,kY,ny,T,false,some l,Φ,cl,fr,fun _=>false⟩
end
end Go.Ab
namespace Go.Ab
open Go Go.RowKit
def itF (w:World) (J:(Nat→Prop)→World→Prop) (U P:Nat→Prop) (w1:World) (M:Nat→Prop) (W:World):Prop:=∃ T,J T W∧(∀ b,b<W.heap.size→M b→T b)∧(∀ b,w.heap.size≤b→b<W.heap.size→¬ U b→T b)∧∀ b,P b→T b∧¬ M b∧¬ U b∧b<W.heap.size∧W.heap[b]?=w1.heap[b]?
theorem aky {w:World}{J:(Nat→Prop)→World→Prop}{U P:Nat→Prop}{w1:World} (hJ:∀ T W W',J T W→Step T W W'→J (lW T W W') W'):∀ M W W',itF w J U P w1 M W→Step M W W'→itF w J U P w1 (fun k=>M k∨W.heap.size≤k) W':=by
 rintro M W W' ⟨T,h1,h2,h3,h4⟩ hs
 refine ⟨lW T W W',hJ T W W' h1 ⟨hs.os,hs.tape,hs.output,hs.size,fun k hk hT=>hs.block k hk (fun hm=>hT (h2 k hk hm))⟩,fun b hb hM=>?_,fun b h4 h5 h6=>?_,fun b hb=>?_⟩
 ·by_cases e:b<W.heap.size
  ·rcases hM with hM|hM
   ·exact .inl (h2 b e hM)
   ·omega
  ·exact .inr ⟨by omega,hb⟩
 ·by_cases e:b<W.heap.size
  ·exact .inl (h3 b h4 e h6)
  ·exact .inr ⟨by omega,h5⟩
 ·obtain ⟨q1,q2,q3,q4,q5⟩:=h4 b hb
  exact⟨.inl q1,fun h=>h.elim q2 (fun h=>by omega),q3,Nat.lt_of_lt_of_le q4 hs.size,(hs.block b q4 q2).trans q5⟩
structure Env where
 Z:Seat
 nt:Nat
 w:World
 κ:Nat→Nat→Option Value
 l:Nat
 n:Nat
 bE:Nat→List D
 J:(Nat→Prop)→Nat→World→Prop
 Jx:(Nat→Prop)→Nat→World→Prop
 w1:World
 vh:Nat→Nat→Option Value
 ex:Nat→Prop
 kY:Nat→Nat
 ny:Nat→Value
 P:Nat→Prop
 hw:w.heap.size≤w1.heap.size
 hex:∀ b o,ex b→κ b o=none
 bQ:∀ b o v,κ b o=some v→vh b o=some v
 ar0:∀ b o v,b<w.heap.size→vh b o=some v→κ b o=some v
 hJ:∀ T k W W',J T k W→Step T W W'→J (lW T W W') k W'
 EX:∀ T k W W',Jx T k W→Step T W W'→Jx (lW T W W') k W'
 hY:∀ T k W vs G ot,J T k W→k<n→(∀ b o v,κ b o=some v→W.cell? ⟨b,o,none⟩=some v)→DZ T G κ ot W (bE k) vs→YieldAt Fence.wide 0 Z.P l vs.toArray W fun e W' =>
   ((e=.returned (.bool true)∧J (la T G) (k+1) W')∨(e=.returned (.bool false)∧Jx (la T G) (k+1) W'))∧Kept (la T G) κ W W'
def KZ (E:Env) (T:Nat→Prop) (W:World):Prop:=(∀ b,T b→E.w.heap.size≤b∨E.ex b)∧E.w.heap.size≤W.heap.size∧∀ g n,E.Z.zM g=some n→g<E.w.heap.size∧(∃ v,E.κ g 0=some v)∧jH W g n
theorem KZ.step {E:Env}{T:Nat→Prop}{W W':World} (h:KZ E T W) (hs:Step T W W'):KZ E (lW T W W') W' :=
 ⟨fun b hb=>hb.elim (h.1 b) (fun e=>.inl (Nat.le_trans h.2.1 e.1)),Nat.le_trans h.2.1 hs.size,fun g n hn=>by
  obtain ⟨h1,⟨v,h2⟩,h3⟩:=h.2.2 g n hn
  refine ⟨h1,⟨v,h2⟩,h3.eq (hs.block g (Nat.lt_of_lt_of_le h1 h.2.1) (fun ht=>?_))⟩
  rcases h.1 g ht with h4|h4
  ·omega
  ·rw[E.hex g 0 h4]at h2;cases h2⟩
def Env.K (E:Env) (k:Nat) (s:Bool) (T:Nat→Prop) (W:World):Prop:=(match s with|true=>E.Jx T k W|false=>E.J T k W)∧KZ E T W
theorem Env.hK (E:Env) (k:Nat) (s:Bool):∀ T W W',E.K k s T W→Step T W W'→E.K k s (lW T W W') W':=by
 cases s
 ·exact fun T W W' h hs=>⟨E.hJ T k W W' h.1 hs,h.2.step hs⟩
 ·exact fun T W W' h hs=>⟨E.EX T k W W' h.1 hs,h.2.step hs⟩
def Env.X (E:Env) (k:Nat) (s:Bool) (U:Nat→Prop):Ctx:=⟨E.Z,E.nt,E.w1,E.vh,none,E.ex,E.vh,E.kY,E.ny,U,true,none,itF E.w (E.K k s) U E.P E.w1,aky (E.hK k s),fun M W h g n hn _ _ _ _=>by obtain ⟨T,h1,_⟩:=h;exact(h1.2.2.2 g n hn).2.2,fun _=>false⟩
def JZ (E:Env) (Q:Nat→Bool→Exit→St→Prop):Exit→Act→World→Prop:=fun e a W=>∃ k s U κ sv S,bk (E.X k s U) κ sv S a W∧Q k s e S
def WI (E:Env) (c:Code) (Q:Nat→Bool→Exit→St→Prop) (k:Nat) (s:Bool) (S:St):Prop:=∀ U κ sv a W,bk (E.X k s U) κ sv S a W→c.wpIn Fence.wide 0 E.Z.P (JZ E Q) a W
def D4 (E:Env) (ops:Array Oper) (l:List Oper) (Q:Nat→Bool→Exit→St→Prop) (k:Nat) (s:Bool) (S:St):Prop:=∀ U κ sv a W,bk (E.X k s U) κ sv S a W→wpListIn Fence.wide 0 E.Z.P ops (JZ E Q) l a W
section
variable {E:Env}{Q:Nat→Bool→Exit→St→Prop}{k:Nat}{s:Bool}{S S1:St}
theorem amY {c:Code} (h:∀ U,W (E.X k s U) c (Q k s) S):WI E c Q k s S:=fun U κ sv a W hs=>by
 refine wpIn_mono (h U κ sv a W hs) ?_
 rintro e a' W' ⟨aA,aQ,S',h1,h2⟩
 exact⟨k,s,U,aA,aQ,S',h1,h2⟩
def ap4 (E:Env) (y:Code) (Q:Nat→Bool→Exit→St→Prop):Nat→Bool→Exit→St→Prop
 |k,s,.normal,S=>WI E y Q k s S
 |k,s,e,S=>Q k s e S
def D6 (id:Nat) (Q:Nat→Bool→Exit→St→Prop):Nat→Bool→Exit→St→Prop
 |k,s,.exit i,S=>bif Nat.beq i id then Q k s .normal S else Q k s (.exit i) S
 |k,s,e,S=>Q k s e S
theorem V7 {x y:Code} (h:WI E x (ap4 E y Q) k s S):WI E (.seq x y) Q k s S:=fun U κ sv a W hs=>by
 refine wpIn_seq (wpIn_mono (h U κ sv a W hs) ?_)
 rintro e a' W' ⟨k',s',U',aA,aQ,S',h1,h2⟩
 cases e<;>first|exact h2 U' aA aQ a' W' h1|exact⟨k',s',U',aA,aQ,S',h1,h2⟩
theorem KJ {id:Nat}{c:Code} (h:WI E c (D6 id Q) k s S):WI E (.block id c) Q k s S:=fun U κ sv a W hs=>by
 refine wpIn_block (wpIn_mono (h U κ sv a W hs) ?_)
 rintro e a' W' ⟨k',s',U',aA,aQ,S',h1,h2⟩
 cases e with
 |exit i =>
  simp only[Exit.inBlock]
  simp only[D6]at h2
  split
  ·rename_i e;subst e;rw[Nat.beq_refl]at h2;exact⟨k',s',U',aA,aQ,S',h1,h2⟩
  ·rename_i e
   have:Nat.beq i id=false:=by
    cases hb:Nat.beq i id
    ·rfl
    ·exact absurd (Nat.eq_of_beq_eq_true hb) e
   rw[this]at h2;exact⟨k',s',U',aA,aQ,S',h1,h2⟩
 |_=>exact⟨k',s',U',aA,aQ,S',h1,h2⟩
theorem PA {c:Code}{α:Type} (F:α→Nat×Bool×St) (inv:α→Prop) (μ:α→Nat) (x0:α) (h0:inv x0) (hs:(F x0).1=k∧(F x0).2.1=s∧∀ U,Wk (E.X k s U) S (F x0).2.2)
  (round:∀ x,inv x→WI E c (fun k' s' e S'=>match e with|.normal=>∃ x',inv x'∧μ x'<μ x∧(F x').1=k'∧(F x').2.1=s'∧∀ U,Wk (E.X k' s' U) S' (F x').2.2|e=>Q k' s' e S') (F x).1 (F x).2.1 (F x).2.2):WI E (.loop c) Q k s S:=by
 intro U κ sv a W fK
 have key:∀ m x U κ sv a W,inv x→μ x<m→bk (E.X (F x).1 (F x).2.1 U) κ sv (F x).2.2 a W→Code.roundsIn Fence.wide 0 E.Z.P c (JZ E Q) m a W:=by
  intro m
  induction m with
  |zero=>intro x U κ sv a W _ h;omega
  |succ m ih =>
   intro x U κ sv a W hi hm hx
   rw[roundsIn_succ]
   refine wpIn_mono (round x hi U κ sv a W hx) ?_
   rintro e a' W' ⟨k',s',U',aA,aQ,S',h1,h2⟩
   cases e with
   |normal =>
    obtain ⟨x',df,hm',rfl,rfl,hw⟩:=h2
    obtain ⟨fh,fI,Fm⟩:=hw U' aA aQ a' W' h1
    exact ih x' U' fh fI a' W' df (by omega) Fm
   |_=>exact⟨k',s',U',aA,aQ,S',h1,h2⟩
 obtain ⟨e1,e2,e3⟩:=hs
 obtain ⟨vh,RL,hx⟩:=e3 U κ sv a W fK
 subst e1 e2
 exact wpIn_loop_rounds (μ x0+1) (key _ x0 U vh RL a W h0 (Nat.lt_succ_self _) hx)
theorem acP {c:Code}{S':St} (hw:∀ U,Wk (E.X k s U) S S') (h:WI E c Q k s S'):WI E c Q k s S:=fun U κ sv a W hs =>
 let ⟨aA,aQ,fN⟩:=hw U κ sv a W hs
 h U aA aQ a W fN
theorem Yt {F:Fence}{n:Nat}{P:Program}{o:Oper}{a:Act}{w:World}{K K':Act→World→Prop}{Q1 Q2:Exit→Act→World→Prop} (h:∀ a w,K a w→K' a w) (hq:∀ e a w,e≠.normal→Q1 e a w→Q2 e a w)
  (hh:o.wpIn F n P a w K Q1):o.wpIn F n P a w K' Q2:=by
 unfold Oper.wpIn at *
 refine ⟨hh.1,?_⟩
 have hh:=hh.2
 generalize (o.semAt F.round a.eval).run P w=r at *
 have lo:LetsOut Q1→LetsOut Q2:=fun ⟨a,w,h⟩=>⟨a,w,hq _ _ _ (by simp) h⟩
 cases r with
 |ok x w' =>
  cases x<;>simp only[Oper.uponIn]at hh ⊢ <;>
   first
    |exact h _ _ hh
    |exact⟨hh.1,CallsIn.mono hh.2 (fun e w'' he=>by cases e<;>first|exact h _ _ he|exact hq _ _ _ (by simp) he|exact lo he)⟩
    |exact⟨hh.1,RowsIn.mono hh.2 (fun _ _ he=>h _ _ he)⟩
    |exact⟨hh.1,RoundIn.mono hh.2 (fun e w'' he=>by cases e<;>first|exact h _ _ he|exact hq _ _ _ (by simp) he|exact lo he)⟩
 |halt x w'=>cases x<;>simp only[Oper.uponIn]at hh ⊢<;>first|exact hq _ _ _ (by simp) hh|exact hh
theorem mg {F:Fence}{n:Nat}{P:Program}{ops:Array Oper}{Q1 Q2:Exit→Act→World→Prop}{l2:List Oper} (hn:∀ a w,Q1 .normal a w→wpListIn F n P ops Q2 l2 a w) (hq:∀ e a w,e≠.normal→Q1 e a w→Q2 e a w) :
  ∀ (l1:List Oper) (a:Act) (w:World),wpListIn F n P ops Q1 l1 a w→wpListIn F n P ops Q2 (l1++l2) a w
 |[],a,w,h=>hn a w h
 |o::l1,a,w,h=>by
  simp only[List.cons_append,wpListIn]at h ⊢
  split
  ·rename_i hw
   rw[if_pos hw]at h
   exact Yt (fun a w h=>mg hn hq l1 a w h) hq h
  ·rename_i hw
   rw[if_neg hw]at h
   exact⟨h.1,mg hn hq l1 _ _ h.2⟩
theorem HL {id:Nat}{l:List Oper} (h:D4 E l.toArray l Q k s S):WI E (.region id l.toArray false) Q k s S:=fun U κ sv a W hs=>wpIn_region_lit (h U κ sv a W hs)
theorem V4 {ops:Array Oper}{l:List Oper} (h:∀ U,WL (E.X k s U) ops l (Q k s) S):D4 E ops l Q k s S:=fun U κ sv a W hs=>by
 have:=mg (l2:=[]) (Q2:=JZ E Q) (fun a w ⟨aA,aQ,S',h1,h2⟩=>⟨k,s,U,aA,aQ,S',h1,h2⟩) (fun e a w _ ⟨aA,aQ,S',h1,h2⟩=>⟨k,s,U,aA,aQ,S',h1,h2⟩) l a W (h U κ sv a W hs)
 rwa [List.append_nil]at this
theorem KI {ops:Array Oper} (l1 l2:List Oper) (h1:∀ U,WL (E.X k s U) ops l1 (fun e S'=>e=.normal∧D4 E ops l2 Q k s S') S):D4 E ops (l1++l2) Q k s S:=fun U κ sv a W hs =>
 mg (fun a w ⟨aA,aQ,S',h,_,h2⟩=>h2 U aA aQ a w h) (fun e a w cx ⟨_,_,_,_,h,_⟩=>absurd h cx) l1 a W (h1 U κ sv a W hs)
mutual
inductive yd (S:St) (ps:List Nat):D→D→Prop
 |conv (d d':D):(∀ (κ:Nat→Nat→Option Value) (γ:Nat→Nat) (sv:Nat→Value) (v:Value),aW κ γ sv d v→∀ (aA:Nat→Nat→Option Value) (cU:Nat→Nat) (aQ:Nat→Value),aW aA cU aQ d' v)→yd S ps d d'
 |os (s g E z n:Nat) (f:Nat→List D):S.γ s=g→S.σ s=.arr E z n f→s∈ps→(∀ i,i<n→∃ vs,ll (f i)=some vs)→yd S ps (.os s g) (.sl z n f)
 |bx (s g o:Nat) (l:List D):S.γ s=g→S.σ s=.box l→s∈ps→(∃ vs,ll l=some vs)→yd S ps (.bx s g o) (.rp l o)
 |agg (l l':List D):py S ps l l'→yd S ps (.agg l) (.agg l')
 |fn (f:FuncId) (l l':List D):py S ps l l'→yd S ps (.fn f l) (.fn f l')
inductive py (S:St) (ps:List Nat):List D→List D→Prop
 |nil:py S ps [] []
 |cons (d d':D) (l l':List D):yd S ps d d'→py S ps l l'→py S ps (d::l) (d'::l')
end
def St.drop (S:St) (ps:List Nat):St:=⟨S.ρ,S.γ,fun s=>bif bc s ps then .none else S.σ s⟩
open Classical in
noncomputable def uF (κ:Nat→Nat→Option Value) (G:Nat→Prop) (W:World):Nat→Nat→Option Value:=fun b o=>if G b then W.cell? ⟨b,o,none⟩ else κ b o
section
variable {aA:Nat→Nat→Option Value}{sv:Nat→Value}{S:St}{ps:List Nat}{W:World}{X:Ctx}
open Classical in
mutual
theorem yd.rep (h:cE X aA sv S W) {κ:Nat→Nat→Option Value}{G:Nat→Prop} (hG:∀ p∈ps,∀ b,aL (S.σ p) (sv p)=some b→G b):∀ {d d':D}{v:Value},yd S ps d d'→aW aA S.γ sv d v→aW (uF κ G W) gO eV d' v
 |_,_,_,.conv _ _ hc,hr=>hc _ _ _ _ hr _ _ _
 |_,_,v,.os s g E z n f hg aF hm hf,hr=>by
  have aP:=h.own s
  rw[aF]at aP
  obtain ⟨xs,e1,e2,e3,e4⟩:=aP
  cases hr with
  |os _ _ _ _ hh _ =>
   have hv:=hh hg.symm
   have tG:∀ i,i<n→aD (uF κ G W) gO eV (f i) ((xs.drop (i * z)).take z):=fun i hi=>by
    obtain ⟨vs,mV⟩:=hf i hi
    rw[xY mV (e4 i hi)]
    exact vc mV
   rcases e1.2 with ⟨hn,h0⟩|⟨b,off,cap,cur,hn,h0,h5,h6,h7,h8,h9⟩
   ·rw[hv,hn,h0];exact .lI _ _
   ·have hb:G b:=hG s hm b (by rw[aF,hn];rfl)
    rw[hv,hn]
    refine .sl z n f b off cap (fun i=>(xs.drop (i * z)).take z) h6 e2 e3 tG (fun i j u hi hj=>?_)
    unfold uF
    rw[if_pos hb,cell_of_row W b (off+i * z+j) cur E (0,0) h5]
    rw[List.getElem?_take]at hj
    split at hj
    ·rename_i hjz
     rw[List.getElem?_drop]at hj
     rw[← h9,List.getElem?_take]at hj
     split at hj
     ·rw[List.getElem?_drop]at hj
      rw[show off+i * z+j=off+(i * z+j) by omega]
      simpa using hj
     ·cases hj
    ·cases hj
 |_,_,v,.bx s g o l hg aF hm hf,hr=>by
  have aP:=h.own s
  rw[aF]at aP
  obtain ⟨b,T,cs,e1,e2,e3,e4⟩:=aP
  cases hr with
  |bx _ _ _ _ _ hh _ =>
   obtain ⟨b',h5,rfl⟩:=hh hg.symm
   rw[e1]at h5
   simp only[Value.pointer.injEq,Option.some.injEq,Addr.mk.injEq,and_true]at h5
   subst h5
   have hb:G b:=hG s hm b (by rw[aF,e1];rfl)
   obtain ⟨vs,mV⟩:=hf
   have hc:=xY mV e3
   have:=aW.rp (κ:=uF κ G W) (γ:=gO) (sv:=eV) l o b 0 cs e4.1 (by rw[hc];exact vc mV) (fun j v hj=>by
    unfold uF
    rw[if_pos hb,cell_of_row W b _ _ _ _ e2,Nat.zero_add];simpa using hj)
   simpa using this
 |_,_,v,.agg l l' hl,hr=>by
  cases hr with
  |agg _ vs hv=>exact .agg _ _ (py.rep h hG hl hv)
 |_,_,v,.fn f l l' hl,hr=>by
  cases hr with
  |fn _ _ vs hv=>exact .fn f _ _ (py.rep h hG hl hv)
theorem py.rep (h:cE X aA sv S W) {κ:Nat→Nat→Option Value}{G:Nat→Prop} (hG:∀ p∈ps,∀ b,aL (S.σ p) (sv p)=some b→G b):∀ {l l':List D}{vs:List Value},py S ps l l'→aD aA S.γ sv l vs→aD (uF κ G W) gO eV l' vs
 |_,_,_,.nil,hr=>by cases hr;exact .nil
 |_,_,_,.cons d d' l l' a b,hr=>by
  cases hr with
  |cons _ _ _ _ r1 r2=>exact .cons _ _ _ _ (yd.rep h hG a r1) (py.rep h hG b r2)
end
end
open Classical in
theorem HK {ops:Array Oper}{o:Oper}{rest:List Oper}{x:Operand}{xs:Array Operand}{ts:Array TypeId}{d:Nat}{A:List D}{ps:List Nat} (ho:o.op=.call { callee:=.value x,args:=xs,argTypes:=ts }) (hg:o.guard=none) (hd:o.dst=some d)
  (hx:S.ev (E.X k false fun _=>False) x=.yl E.l) (hA:xs.toList.map (S.ev (E.X k false fun _=>False))=A) (hv:py S ps A (E.bE k)) (hk:k<E.n)
  (hT:D4 E ops rest Q (k+1) false ((S.drop ps).set d (.bool true))) (hF:D4 E ops rest Q (k+1) true ((S.drop ps).set d (.bool false))):D4 E ops (o::rest) Q k false S:=fun U aA sv a W hs=>by
 obtain ⟨M,⟨T,t1,t2,t3,t4⟩,aP⟩:=hs.aJ.frame
 have bQ:∀ b o v,E.κ b o=some v→W.cell? ⟨b,o,none⟩=some v:=fun b o v hb=>hs.aJ.gU b o v (hs.aJ.le.cells b o v (E.bQ b o v hb))
 let G:Nat→Prop:=fun b=>∃ p∈ps,aL (S.σ p) (sv p)=some b
 have hav:=ic hs xs.toList
 have hA':xs.toList.map (S.ev (E.X k false U))=A:=hA
 rw[hA']at hav
 have arQ:DZ T G E.κ (uF E.κ G W) W (E.bE k) (xs.toList.map a.eval):=by
  refine ⟨fun b ⟨p,hp,hb⟩=>t2 b (cP (hs.aJ.own p) hb) (aP p b hb),fun b o v hq=>?_,py.rep (G:=G) hs.aJ (fun p hp b hb=>⟨p,hp,hb⟩) hv hav⟩
  unfold uF at hq
  split at hq
  ·rename_i XO;exact⟨.inr XO,hq⟩
  ·exact⟨.inl hq,bQ b o v hq⟩
 obtain ⟨fn,tmps,assign,body,y1,y2⟩:=E.hY T k W _ G _ t1.1 hk bQ arQ
 have cH:a.eval x=.func (.yield E.l) #[] #[]:=by
  have:=hs.ev x
  have h2:S.ev (E.X k false U) x=.yl E.l:=hx
  rw[h2]at this
  generalize a.eval x=v at this
  cases this;rfl
 have bX:(execOp a.eval o).run E.Z.P W=.ok (.round E.l fn tmps assign body) W:=by
  have h4:execOp a.eval o=Instr.yield E.l (xs.map a.eval):=by
   unfold execOp;rw[ho];simp[resolve,Deferred.ofValue,cH,invoke]
  have h5:xs.map a.eval=(xs.toList.map a.eval).toArray:=by simp[← Array.toList_map]
  rw[h4,h5];exact y1
 refine wpListIn_plain hg fun K hK=>⟨fun _ _=>trivial,?_⟩
 rw[show Fence.wide.round=none from rfl,Oper.semAt_none,bX]
 refine ⟨fun h=>(by simp[Fence.wide]at h),y2.mono ?_⟩
 rintro e W' ⟨Fe,rz⟩
 let U':Nat→Prop:=fun b=>U b∨(W.heap.size≤b∧b<W'.heap.size)∨G b
 have cz:∀ b o v,aA b o=some v→b<W.heap.size:=fun b o v hb=>by have:=World.block_lt_of_cell? W _ (hs.aJ.gU b o v hb);simpa using this
 have hnG:∀ b o v,aA b o=some v→¬ G b:=fun b o v hb ⟨p,hp,Ff⟩=>by rw[hs.aJ.sep p b o Ff]at hb;cases hb
 have same:∀ b o v,aA b o=some v→W'.cell? ⟨b,o,none⟩=some v:=by
  intro b o v hb
  by_cases e:b<E.w.heap.size
  ·exact rz.cell b o v (E.ar0 b o v e (hs.aJ.nf b o v (Nat.lt_of_lt_of_le e E.hw) hb))
  ·have hT:T b:=t3 b (by omega) (cz b o v hb) (hs.aJ.aw1 b o v hb)
   rw[World.cell?_of_block (rz.Hm b ⟨hT,hnG b o v hb⟩)];exact hs.aJ.gU b o v hb
 have yk:∀ t b,aL ((S.drop ps).σ t) (sv t)=some b→t ∉ ps∧aL (S.σ t) (sv t)=some b:=fun t b hb=>by
  have hb:aL (bif bc t ps then .none else S.σ t) (sv t)=some b:=hb
  cases hm:bc t ps with
  |true=>rw[hm]at hb;cases hb
  |false=>rw[hm]at hb;exact⟨fun h=>(by rw[bw.2 h]at hm;cases hm),hb⟩
 have Ul:∀ t b,aL ((S.drop ps).σ t) (sv t)=some b→¬ G b:=fun t b hb ⟨p,hp,Ff⟩=>by
  obtain ⟨h1,h2⟩:=yk t b hb
  exact h1 (hs.aJ.inj t p b h2 Ff ▸ hp)
 have ajr:∀ (s':Bool),E.K (k+1) s' (la T G) W'→cE (E.X (k+1) s' U') aA sv (S.drop ps) W':=fun s' hK'=>by
  obtain ⟨h1,h2,h3,h4,h5,_,h7,h8,h9,fT,iD,jz,jm,gK,kA⟩:=hs.aJ
  refine ⟨same,fun t=>?_,fun t u b ht hu=>h3 t u b (yk t b ht).2 (yk u b hu).2,fun t b o ht=>h4 t b o (yk t b ht).2,fun t b ht=>h5 t b (yk t b ht).2,
   ⟨fun b=>(M b∧b<W.heap.size)∧¬ G b,⟨la T G,hK',fun b _ hM=>⟨t2 b hM.1.2 hM.1.1,hM.2⟩,fun b e1 e2 e3=>?_,fun b hP=>?_⟩,fun t b hb=>⟨⟨aP t b (yk t b hb).2,cP (h2 t) (yk t b hb).2⟩,Ul t b hb⟩⟩,h7,h8,h9,Nat.le_trans fT rz.size,iD,fun b o v hb hU=>?_,fun t b hb hU=>?_,fun b hU=>?_,kA⟩
  ·show fB _ _ _ _ _ t (bif bc t ps then .none else S.σ t)
   cases hm:bc t ps with
   |true=>trivial
   |false =>
    refine dZ (Le.refl _ _ _) rfl (fun b hb=>rz.Hm b ⟨t2 b (cP (h2 t) hb) (aP t b hb),fun ⟨p,hp,Ff⟩=>?_⟩) (h2 t)
    rw[h3 t p b hb Ff]at hm
    rw[bw.2 hp]at hm;cases hm
  ·by_cases e:b<W.heap.size
   ·exact⟨t3 b e1 e (fun h=>e3 (.inl h)),fun XO=>e3 (.inr (.inr XO))⟩
   ·exact absurd (.inr (.inl ⟨by omega,e2⟩)) e3
  ·obtain ⟨q1,q2,q3,q4,q5⟩:=t4 b hP
   have hg:¬ G b:=fun ⟨p,hp,Ff⟩=>q2 (aP p b Ff)
   exact⟨⟨q1,hg⟩,fun h=>q2 h.1.1,fun h=>by
    rcases h with h|⟨h,_⟩|h
    ·exact q3 h
    ·omega
    ·exact hg h,Nat.lt_of_lt_of_le q4 rz.size,(rz.Hm b ⟨q1,hg⟩).trans q5⟩
  ·rcases hU with hU|⟨hU,_⟩|hU
   ·exact jz b o v hb hU
   ·have:=cz b o v hb;omega
   ·exact hnG b o v hb hU
  ·rcases hU with hU|⟨hU,_⟩|hU
   ·exact jm t b (yk t b hb).2 hU
   ·have:=cP (h2 t) (yk t b hb).2;omega
   ·exact Ul t b hb hU
  ·rcases hU with hU|⟨_,hU⟩|⟨p,hp,Ff⟩
   ·exact Nat.lt_of_lt_of_le (gK b hU) rz.size
   ·exact hU
   ·exact Nat.lt_of_lt_of_le (cP (h2 p) Ff) rz.size
 have dfr:∀ s',jU (E.X (k+1) s' U').nd (E.X (k+1) s' U').w0.heap.size a W':=fun s'=>by
  obtain ⟨Ds,e1,e2,e3,e4⟩:=hs.defers
  have:Ds=[]:=e4 rfl
  subst this
  exact .nil (by simpa using e1)
 have hKZ:KZ E (la T G) W':=⟨fun b hb=>t1.2.1 b hb.1,Nat.le_trans t1.2.2.1 rz.size,fun g n hn=>by
  obtain ⟨q1,⟨v,q2⟩,q3⟩:=t1.2.2.2 g n hn
  exact⟨q1,⟨v,q2⟩,q3.eq (rz.row g 0 v q2)⟩⟩
 rcases Fe with ⟨rfl,hJ⟩|⟨rfl,hJ⟩
 ·show K (a.put o.dst (.bool true)) W'
  rw[hd]
  have h1:bk (E.X (k+1) false U') aA sv (S.drop ps) a W':=⟨hs.size,dfr false,hs.slot,ajr false ⟨hJ,hKZ⟩⟩
  exact hK _ _ (hT U' aA sv _ W' (h1.put (some d) (.bool true)))
 ·show K (a.put o.dst (.bool false)) W'
  rw[hd]
  have h1:bk (E.X (k+1) true U') aA sv (S.drop ps) a W':=⟨hs.size,dfr true,hs.slot,ajr true ⟨hJ,hKZ⟩⟩
  exact hK _ _ (hF U' aA sv _ W' (h1.put (some d) (.bool false)))
end
theorem Ya (E:Env) {fn:Func} (nV:fn.results=#[]) {k:Nat}{s:Bool}{U:Nat→Prop}{aA:Nat→Nat→Option Value}{aQ:Nat→Value}{S':St}{a':Act}{W':World} (hs:bk (E.X k s U) aA aQ S' a' W') (hk:s=false→k=E.n) (di:k≤E.n) :
  LeavesInM Fence.wide 0 E.Z.P fn a'.tmps (fun e W'=>(∃ v,e=.returned v)∧((∃ T,E.J T E.n W')∨(∃ T k,k≤E.n∧E.Jx T k W'))) a'.defers .returning W':=by
 obtain ⟨Ds,e1,_,_,e4⟩:=hs.defers
 have:Ds=[]:=e4 rfl
 subst this
 have hd:a'.defers=[]:=by simpa using e1
 obtain ⟨M,⟨T,t1,_⟩,_⟩:=hs.aJ.frame
 rw[hd]
 refine ⟨.tuple #[],by simp[results,nV],⟨_,rfl⟩,?_⟩
 cases s with
 |false=>rw[← hk rfl];exact .inl ⟨T,t1.1⟩
 |true=>exact .inr ⟨T,k,di,t1.1⟩
structure KA (Z:Seat) (gf:FuncId) (Pre:(Nat→Nat→Option Value)→World→List Value→(Nat→Prop)→Prop) (n:Nat) (bE:Nat→List D):Prop where
 body:gD Z.P gf
 Kg:∀ k,k<n→ab (bE k)
 it:∀ (w:World) (κ:Nat→Nat→Option Value) (lb:List Value) (T0:Nat→Prop),Fits κ w→iA Z κ w→Pre κ w lb T0→∀ (l:Nat) (J Jx:(Nat→Prop)→Nat→World→Prop),
  (∀ T k W W',J T k W→Step T W W'→J (lW T W W') k W') →
  (∀ T k W W',Jx T k W→Step T W W'→Jx (lW T W W') k W') →
  (∀ T k W vs G ot,J T k W→k<n→(∀ b o v,κ b o=some v→W.cell? ⟨b,o,none⟩=some v)→DZ T G κ ot W (bE k) vs→YieldAt Fence.wide 0 Z.P l vs.toArray W fun e W' =>
   ((e=.returned (.bool true)∧J (la T G) (k+1) W')∨(e=.returned (.bool false)∧Jx (la T G) (k+1) W'))∧Kept (la T G) κ W W') →
  J T0 0 w →
  CallsIn Fence.wide 0 Z.P gf (Value.func (.yield l) #[] #[]::lb).toArray w fun e W'=>(∃ v,e=.returned v)∧((∃ T,J T n W')∨(∃ T k,k≤n∧Jx T k W'))
def Gq (cap:List D) (κ:Nat→Nat→Option Value) (_:World) (lb:List Value) (T0:Nat→Prop):Prop:=aD κ gO eV cap lb∧∀ b,¬ T0 b
theorem Kz.toG {Z:Seat}{f:FuncId}{cap:List D}{n:Nat}{bE:Nat→List D} (h:Kz Z f cap n bE):KA Z f (Gq cap) n bE :=
 ⟨h.body,h.Kg,fun w κ lb T0 bQ dV vA l J Jx hJ EX hY h0=>h.it w κ lb bQ dV vA.1 l J Jx hJ EX hY (by
  have e:T0=fun _=>False:=funext fun b=>propext ⟨fun hb=>vA.2 b hb,fun hb=>hb.elim⟩
  rw[← e];exact h0)⟩
def Gp (l:List D) (κ:Nat→Nat→Option Value) (w:World) (lb:List Value) (T0:Nat→Prop):Prop:=∃ b T cs,lb=[.pointer (some ⟨b,0,none⟩)]∧(∀ o,κ b o=none)∧w.heap[b]?=some (.cells (List.toArray cs) T (0,0))∧aD κ gO eV l cs∧∀ x,T0 x↔x=b
theorem Zm {Z:Seat}{κ:Nat→Nat→Option Value}{w:World} (dV:iA Z κ w):∀ g n,Z.zM g=some n→g<w.heap.size∧(∃ v,κ g 0=some v)∧jH w g n:=fun g n hn=>by
 obtain ⟨l1,e1,e2⟩:=Z.Ue g n hn
 obtain ⟨_,u,e3,e4⟩:=dV.1 g l1 e1
 obtain ⟨cs,T,fr,e5,e6⟩:=dV.2 g n hn
 refine ⟨(Array.getElem?_eq_some_iff.1 e5).1,?_,cs,T,fr,e5,e6⟩
 cases e3 with
 |nil=>exact absurd rfl e2
 |cons d v l vs _ _=>exact⟨v,e4 0 v rfl⟩
theorem X9 {Z : Seat} {f : FuncId} {fn : Func} {c : Code} {cap : List D} {n : Nat} {bE : Nat → List D} (hf : Z.P.funcs[f]? = some fn) (hb : fn.body = some c) (cV : (fn.name == "runtime.NumGoroutine") = false) (hn : Nat.ble (cap.length + 1) fn.ntmps = true) (hI : ∀ k, k < n → ab (bE k)) (nV : fn.results = #[])
  (h:∀ E:Env,E.Z=Z→E.nt=fn.ntmps→E.n=n→E.bE=bE→WI E c (fun k s e _=>(e=.normal∨e=.ret)∧(s=false→k=n)∧k≤n) 0 false (St.init (.yl E.l::cap))):KA Z f (Gq cap) n bE:=by
 refine ⟨⟨fn,c,hf,hb,cV⟩,hI,fun w κ lb T0 bQ dV vA l J Jx hJ EX hY h0=>?_⟩
 obtain ⟨cq,Cd⟩:=vA
 refine callsIn_of_wp_marks hf hb trivial ?_ rfl
 have hlen:cap.length+1≤fn.ntmps:=Nat.le_of_ble_eq_true hn
 have sE:=cq.length
 let E:Env:=⟨Z,fn.ntmps,w,κ,l,n,bE,J,Jx,w,κ,fun _=>False,fun _=>0,fun _=>Go.undef,fun _=>False,Nat.le_refl _,fun _ _ h=>h.elim,fun _ _ _ h=>h,fun _ _ _ _ h=>h,hJ,EX,hY⟩
 have xB:aD κ gO eV (.yl l::cap) (Value.func (.yield l) #[] #[]::lb):=.cons _ _ _ _ (.yl _) cq
 have iK:=Zm dV
 have fK:bk (E.X 0 false fun _=>False) κ eV (St.init (.yl l::cap)) { tmps:=(Value.func (.yield l) #[] #[]::lb).toArray++Array.replicate (fn.ntmps - (Value.func (.yield l) #[] #[]::lb).toArray.size) Go.undef,defers:=[] } w:=by
  refine ⟨by simp[Env.X,E];omega,jU.nil rfl,fun i _=>jq xB _ i,?_⟩
  exact⟨bQ,fun _=>trivial,(fun s t b hs=>by cases hs),(fun s b o hs=>by cases hs),(fun s b hs=>by cases hs),⟨fun _=>False,⟨T0,⟨h0,fun b h=>(Cd b h).elim,Nat.le_refl _,iK⟩,fun _ _ h=>h.elim,fun b h1 h2 _=>(by have h1:w.heap.size≤b:=h1;omega),fun b h=>h.elim⟩,fun s b hs=>by cases hs⟩,dV.1,fun b o v _ hk=>hk,(fun b hb=>by cases hb),Nat.le_refl _,
   ⟨fun _ _ _ h=>h,fun _=>Nat.zero_le _,fun _ _=>rfl⟩,fun _ _ _ _ h=>h,fun _ _ _ h=>h,fun _ h=>h.elim,lM dV (fun _ e=>by cases e) (fun _ e=>e.elim)⟩
 refine wpIn_mono (h E rfl rfl rfl rfl _ κ eV _ w fK) ?_
 rintro e a' W' ⟨k,s,U,aA,aQ,S',hs,he,hk,di⟩
 rcases he with rfl|rfl<;>exact Ya E nV hs hk di
theorem Uv {Z : Seat} {f : FuncId} {fn : Func} {c : Code} {m : List D} {n : Nat} {bE : Nat → List D} (hf : Z.P.funcs[f]? = some fn) (hb : fn.body = some c) (cV : (fn.name == "runtime.NumGoroutine") = false) (hn : Nat.ble 2 fn.ntmps = true) (hm : ab m) (QS : aY m = true) (hI : ∀ k, k < n → ab (bE k)) (nV : fn.results = #[])
  (h:∀ E:Env,E.Z=Z→E.nt=fn.ntmps→E.n=n→E.bE=bE→WI E c (fun k s e _=>(e=.normal∨e=.ret)∧(s=false→k=n)∧k≤n) 0 false ⟨(St.init [.yl E.l,.bx 1 1 0]).ρ,aG (fun _=>0) 1 1,aG (fun _=>.none) 1 (.box m)⟩):KA Z f (Gp m) n bE:=by
 refine ⟨⟨fn,c,hf,hb,cV⟩,hI,fun w κ lb T0 bQ dV vA l J Jx hJ EX hY h0=>?_⟩
 obtain ⟨b,TT,cs,rfl,lf,hhb,jZ,Cd⟩:=vA
 refine callsIn_of_wp_marks hf hb trivial ?_ rfl
 have hlen:2≤fn.ntmps:=Nat.le_of_ble_eq_true hn
 let E:Env:=⟨Z,fn.ntmps,w,κ,l,n,bE,J,Jx,w,κ,fun x=>x=b,fun _=>0,fun _=>Go.undef,fun _=>False,Nat.le_refl _,fun x o e=>by rw[e];exact lf o,fun _ _ _ h=>h,fun _ _ _ _ h=>h,hJ,EX,hY⟩
 let sv:Nat→Value:=aG eV 1 (.pointer (some ⟨b,0,none⟩))
 let γ:Nat→Nat:=aG (fun _=>0) 1 1
 have xB:aD κ γ sv [.yl l,.bx 1 1 0] [Value.func (.yield l) #[] #[],Value.pointer (some ⟨b,0,none⟩)] :=
  .cons _ _ _ _ (.yl _) (.cons _ _ _ _ (.bx _ _ _ _ (Nat.le_refl _) (fun _=>⟨b,rfl,rfl⟩) rfl) .nil)
 have aF:∀ s b',aL (aG (fun _=>Own.none) 1 (.box m) s) (sv s)=some b'→s=1∧b'=b:=by
  intro s b' hs
  by_cases e:s=1
  ·subst e;rw[aC]at hs;simp only[sv,aC,aL,Option.some.injEq]at hs;exact⟨rfl,hs.symm⟩
  ·rw[bh _ _ _ _ e]at hs;cases hs
 have iK:=Zm dV
 have fK:bk (E.X 0 false fun _=>False) κ sv ⟨(St.init [.yl l,.bx 1 1 0]).ρ,γ,aG (fun _=>Own.none) 1 (.box m)⟩ { tmps:=[Value.func (.yield l) #[] #[],Value.pointer (some ⟨b,0,none⟩)].toArray++Array.replicate (fn.ntmps - [Value.func (.yield l) #[] #[],Value.pointer (some ⟨b,0,none⟩)].toArray.size) Go.undef,defers:=[] } w:=by
  refine ⟨by simp[Env.X,E];omega,jU.nil rfl,fun i _=>jq xB _ i,?_⟩
  refine ⟨bQ,fun s=>?_,(fun s t b' hs ht=>(aF s b' hs).1.trans (aF t b' ht).1.symm),(fun s b' o hs=>by rw[(aF s b' hs).2];exact lf o),(fun s b' hs=>.inr (.inr (aF s b' hs).2)),⟨fun x=>x=b,⟨T0,⟨h0,fun x h=>.inr ((Cd x).1 h),Nat.le_refl _,iK⟩,fun x _ h=>(Cd x).2 h,fun b' h1 h2 _=>(by have h1:w.heap.size≤b':=h1;omega),fun b h=>h.elim⟩,fun s b' hs=>(aF s b' hs).2⟩,fun g l1 hg=>?_,fun b o v _ hk=>hk,(fun b hb=>by cases hb),Nat.le_refl _,
   ⟨fun _ _ _ h=>h,fun _=>Nat.zero_le _,fun s (e:0=γ s)=>bh _ _ _ _ (fun e2=>by subst e2;simp only[γ,aC]at e;cases e)⟩,fun _ _ _ _ h=>h,fun _ _ _ h=>h,fun _ h=>h.elim,lM dV (fun _ e=>by cases e) (fun b' e o=>by have e:b'=b:=e;rw[e];exact lf o)⟩
  ·by_cases e:s=1
   ·subst e
    exact⟨b,TT,cs,rfl,hhb,jZ.pure (fun _ _ _ h=>h) hm,.pure QS hm⟩
   ·show fB _ _ _ _ _ s (aG (fun _=>Own.none) 1 (.box m) s)
    rw[bh _ _ _ _ e];trivial
  ·obtain ⟨h1,u,h2,h3⟩:=dV.1 g l1 hg
   exact⟨h1,u,h2.pure (fun _ _ _ h=>h) (Z.qQ g l1 hg),h3⟩
 refine wpIn_mono (h E rfl rfl rfl rfl _ κ sv _ w fK) ?_
 rintro e a' W' ⟨k,s,U,aA,aQ,S',hs,he,hk,di⟩
 rcases he with rfl|rfl<;>exact Ya E nV hs hk di
theorem X8 {Z : Seat} {f : FuncId} {fn : Func} {c : Code} {cap : List D} {n : Nat} {bE : Nat → List D} (hf : Z.P.funcs[f]? = some fn) (hb : fn.body = some c) (cV : (fn.name == "runtime.NumGoroutine") = false) (hn : Nat.ble (cap.length + 1) fn.ntmps = true) (hA : ab cap) (hI : ∀ k, k < n → ab (bE k)) (nV : fn.results = #[])
  (h:∀ E:Env,E.Z=Z→E.nt=fn.ntmps→E.n=n→E.bE=bE→WI E c (fun k s e _=>(e=.normal∨e=.ret)∧(s=false→k=n)∧k≤n) 0 false (St.init (.yl E.l::cap))):Kz Z f cap n bE:=by
 have g:=X9 hf hb cV hn hI nV h
 exact⟨g.body,g.Kg,hA,fun w κ lb bQ dV cq l J Jx hJ EX hY h0=>g.it w κ lb (fun _=>False) bQ dV ⟨cq,fun _ h=>h⟩ l J Jx hJ EX hY h0⟩
section
variable {E:Env}{Q:Nat→Bool→Exit→St→Prop}{k:Nat}{s:Bool}{S:St}
theorem V5 {id:Nat}{ops:Array Oper}{b:Bool} (h:∀ U,W (E.X k s U) (.region id ops b) (Q k s) S):WI E (.region id ops b) Q k s S:=amY h
theorem PB (h:Q k s .normal S):WI E .skip Q k s S:=fun U κ sv _ _ hs=>wpIn_skip ⟨k,s,U,κ,sv,S,hs,h⟩
theorem Pz {id:Nat} (h:Q k s (.exit id) S):WI E (.exit id) Q k s S:=fun U κ sv _ _ hs=>wpIn_exit ⟨k,s,U,κ,sv,S,hs,h⟩
theorem V6 (h:Q k s .ret S):WI E .ret Q k s S:=fun U κ sv _ _ hs=>wpIn_ret ⟨k,s,U,κ,sv,S,hs,h⟩
end
section
variable {X:Ctx}{S:St}
theorem sB (i j:Nat) {s g o:Nat}{f:FuncId}{c c' l:List D} (hX:X.ext=none∧∀ b,¬ X.ex b) (h:S.ρ i=.fn f c) (hj:nth c j=some (.bx s g o)) (hg:S.γ s=g) (aF:S.σ s=.box l) (lB:iy c j [.rp l o]=some c') :
  Wk X S ⟨aG S.ρ i (.fn f c'),S.γ,aG S.σ s .none⟩:=fun κ sv a w hs=>by
 have hle:=rO hs.aJ s
 obtain ⟨rfl,hlen⟩:=ng lB
 have ee:∀ b,aL (S.σ s) (sv s)=some b→X.w0.heap.size≤b:=fun b hb=>(hs.aJ.oI s b hb).resolve_right (fun h=>h.elim (fun h=>by rw[hX.1]at h;cases h) (hX.2 b))
 refine ⟨_,sv,⟨hs.size,hs.defers,fun k hk=>?_,hs.aJ.freeze s ee _⟩⟩
 by_cases e:k=i
 ·subst e
  simp only[aC]
  have h1:=hs.slot k hk
  rw[h]at h1
  generalize a.tmps.getD k Go.undef=v at h1
  cases h1 with
  |fn _ _ vs hl =>
   rw[eU]at hj
   obtain ⟨vj,Fl,wb⟩:=hl.get hj
   have mT:j<vs.length:=(List.getElem?_eq_some_iff.1 Fl).1
   have mV:vs=vs.take j++[vj]++vs.drop (j+1):=by
    have h3:vs[j]=vj:=by simpa[List.getElem?_eq_getElem mT] using Fl
    rw[← h3,List.append_assoc,List.singleton_append,List.getElem_cons_drop,List.take_append_drop]
   rw[mV]
   refine .fn _ _ _ ((((hl.take j).mono hle).append (.cons _ _ _ _ ?_ .nil)).append ((hl.drop _).mono hle))
   have aP:=hs.aJ.own s
   rw[aF]at aP
   obtain ⟨b,T,cs,e1,e2,e3,e4⟩:=aP
   cases wb with
   |bx _ _ _ _ _ hh _ =>
    obtain ⟨b',h5,h6⟩:=hh hg.symm
    rw[e1]at h5
    simp only[Value.pointer.injEq,Option.some.injEq,Addr.mk.injEq,and_true]at h5
    subst h5
    rw[h6]
    have:=aW.rp (κ:=fun b o=>if aL (S.σ s) (sv s)=some b then w.cell? ⟨b,o,none⟩ else κ b o) (γ:=S.γ) (sv:=sv) l o b 0 cs e4.1 (e3.mono hle) (fun j v hj=>by
     have hb:aL (S.σ s) (sv s)=some b:=by rw[aF,e1];rfl
     simp only[hb,if_true]
     rw[cell_of_row w b _ _ _ _ e2,Nat.zero_add];simpa using hj)
    simpa using this
 ·simp only[bh _ _ _ _ e];exact(hs.slot k hk).mono hle
end
end Go.Ab
namespace Go.Ab
open Go Go.RowKit
section
variable {X:Ctx}{Q:Exit→St→Prop}{S T S0:St}{ops:Array Oper}{o:Oper}{rest:List Oper}{E:List VT}{V:List Vl}
theorem IV {P:Program}{f:FuncId} (h:gD P f) {a:Act}{w:World}{x:Operand}{xs:Array Operand}{ts:Array TypeId}{lb:List Value} (ho:o.op=.call { callee:=.value x,args:=xs,argTypes:=ts }) (hx:a.eval x=.func (.func f) #[] lb.toArray) :
  (execOp a.eval o).run P w=.ok (.enter f (xs.toList.map a.eval++lb).toArray) w:=by
 obtain ⟨fn,c,h1,h2,h3⟩:=h
 have h4:execOp a.eval o=callFunc f (#[]++xs.map a.eval++lb.toArray):=by
  unfold execOp;rw[ho];simp[resolve,Deferred.ofValue,hx,invoke]
 rw[h4]
 have h5:(#[]++xs.map a.eval++lb.toArray)=(xs.toList.map a.eval++lb).toArray:=by simp[← Array.toList_map]
 rw[h5]
 have h6 : ¬ fn.name = "runtime.NumGoroutine" := by simpa using h3
 simp[callFunc,h1,h2,h6]
theorem ac2 {κ:Nat→Nat→Option Value}{sv:Nat→Value}{a:Act}{w:World} (hs:bk X κ sv S a w) {x:Operand}{f:FuncId}{c:List D} (h:S.ev X x=.fn f c):∃ lb:List Value,a.eval x=.func (.func f) #[] lb.toArray∧aD κ S.γ sv c lb:=by
 have h1:=hs.ev x
 rw[h]at h1
 generalize a.eval x=v at h1
 cases h1 with
 |fn _ _ vs hl=>exact⟨vs,rfl,hl⟩
theorem SA {κ:Nat→Nat→Option Value}{sv:Nat→Value}{a:Act}{w:World} (hs:bk X κ sv S a w) {f:FuncId}{L A:List D}{vs:List Value}{R:D}{v0:Value} (hc:ep X.Z f A R) (hr:aD κ S.γ sv L vs) (hA:s7 S L A) (hR:sy R=some v0) :
  Calls X.Z.P f vs.toArray w fun e w''=>e=.returned v0∧Below w.heap.size w w'':=by
 let aA:Nat→Nat→Option Value:=fun b o=>w.cell? ⟨b,o,none⟩
 have hle:Le κ aA S.γ S.γ sv sv:=⟨fun b o v hk=>hs.aJ.gU b o v hk,fun _=>Nat.le_refl _,fun _ _=>rfl⟩
 have Co:=hA.rep hs.aJ hle (fun b o v h=>h) hr
 refine (hc.calls w aA _ (fun b o v h=>h) ⟨fun g l hg=>?_,(bk.jY hs.aJ).2⟩ (Co.pure (fun _ _ _ h=>h) hc.j6)).mono ?_
 ·obtain ⟨h1,u,h2,h3⟩:=(bk.jY hs.aJ).1 g l hg
  exact⟨h1,u,h2.mono ⟨fun b o v hk=>hs.aJ.gU b o v hk,fun _=>Nat.le_refl _,fun _ _=>rfl⟩,fun j v hj=>hs.aJ.gU _ _ _ (h3 j v hj)⟩
 ·rintro e w'' ⟨v,rfl,hv,ki⟩
  rw[ag2 hR hv]
  exact⟨rfl,ki⟩
end
section
variable {X:Ctx}{Q:Exit→St→Prop}{S T S0:St}{ops:Array Oper}{o:Oper}{rest:List Oper}{E:List VT}{V:List Vl}{x y:Operand}
theorem asf {cs:Array Operand}{f:FuncId} (ho:o.op=.makeFunc (.func f) cs #[]):dy X o S (.mf f (cs.toList.map (S.ev X))):=fun κ sv a w hs=>by
 refine ⟨.func (.func f) (cs.map a.eval) #[],?_,fun w' _=>by simp[execOp,ho,Instr.makeFunc]⟩
 have:=aW.mf (κ:=κ) (γ:=S.γ) (sv:=sv) f _ _ (ic hs cs.toList)
 have e:(cs.toList.map a.eval).toArray=cs.map a.eval:=by simp[← Array.toList_map]
 rwa [e]at this
theorem Zo {P:Program}{f:FuncId} (h:gD P f) {a:Act}{w:World}{xs:Array Operand}{ts:Array TypeId}{lb:List Value} (ho:o.op=.call { callee:=.value x,args:=xs,argTypes:=ts }) (hx:a.eval x=.func (.func f) lb.toArray #[]) :
  (execOp a.eval o).run P w=.ok (.enter f (lb++xs.toList.map a.eval).toArray) w:=by
 obtain ⟨fn,c,h1,h2,h3⟩:=h
 have h4:execOp a.eval o=callFunc f (lb.toArray++xs.map a.eval++#[]):=by
  unfold execOp;rw[ho];simp[resolve,Deferred.ofValue,hx,invoke]
 rw[h4]
 have h5:(lb.toArray++xs.map a.eval++#[])=(lb++xs.toList.map a.eval).toArray:=by simp[← Array.toList_map]
 rw[h5]
 have h6 : ¬ fn.name = "runtime.NumGoroutine" := by simpa using h3
 simp[callFunc,h1,h2,h6]
theorem am8 {κ:Nat→Nat→Option Value}{sv:Nat→Value}{a:Act}{w:World} (hs:bk X κ sv S a w) {f:FuncId}{c:List D} (h:S.ev X x=.mf f c):∃ lb:List Value,a.eval x=.func (.func f) lb.toArray #[]∧aD κ S.γ sv c lb:=by
 have h1:=hs.ev x
 rw[h]at h1
 generalize a.eval x=v at h1
 cases h1 with
 |mf _ _ vs hl=>exact⟨vs,rfl,hl⟩
theorem rI {P:Program}{T:TypeId}{r:dM} (cj:kt P T r=true) (hk:Nat.beq r.k 2=true):P.underlying T=some (.array r.ln r.el):=by
 obtain ⟨i,d,_,hd,_,_,_,h4⟩:=du cj
 have di:=Nat.eq_of_beq_eq_true hk
 cases d<;>try (simp only at h4;omega)
 obtain ⟨_,h5,h6⟩:=h4
 rw[hd,h5,h6]
theorem anX {T:TypeId}{r q:dM}{s g j:Nat}{k:Int} (ho:o.op=.indexAddr T x y) (hx:S.ev X x=.bx s g j) (hg:S.γ s=g) (hy:S.ev X y=.int .i64 k) (h0:0≤k)
  (hr:nth X.Z.bL T=some r) (hk:Nat.beq r.k 2=true) (h1:k<r.ln) (hq:nth X.Z.bL r.el=some q) (dF:Nat.beq q.k 9=false):dy X o S (.bx s g (j+k.toNat * q.sz)):=fun κ sv a w hs=>by
 have cj:=X.Z.bG _ _ hr (by intro e;rw[e]at hk;cases hk)
 have dx:=X.Z.bG _ _ hq (by intro e;rw[e]at dF;cases dF)
 have eB:=pk (hy ▸ hs.ev y)
 obtain ⟨b,e1,e2⟩:=Hg hs hx hg
 exact⟨.pointer (some ⟨b,j+k.toNat * q.sz,none⟩),.bx _ _ _ _ (by omega) (fun _=>⟨b,e1,rfl⟩) rfl,fun w' _=>by
  simp[execOp,ho,e2,eB,Instr.indexAt,asIntOf,run_underlying (rI cj hk),Instr.sureAddr,h0,h1,fE dx,addr_add]⟩
theorem an0 {T:TypeId}{r q:dM}{l m:List D}{k:Int} (ho:o.op=.index T x y) (hx:S.ev X x=.agg l) (hy:S.ev X y=.int .i64 k) (h0:0≤k)
  (hr:nth X.Z.bL T=some r) (hk:Nat.beq r.k 2=true) (h1:k<r.ln) (hq:nth X.Z.bL r.el=some q) (XV:(Nat.beq q.k 1 || Nat.beq q.k 2)=true) (hm:takeN q.sz (k6 (k.toNat * q.sz) l)=some m):dy X o S (.agg m):=fun κ sv a w hs=>by
 have cj:=X.Z.bG _ _ hr (by intro e;rw[e]at hk;cases hk)
 have dx:=X.Z.bG _ _ hq (by intro e;rw[e]at XV;simp at XV)
 have eB:=pk (hy ▸ hs.ev y)
 obtain ⟨vs,e1,hl⟩:=tk hs hx
 obtain ⟨rfl,hlen⟩:=oS hm
 rw[oy]at hlen ⊢
 obtain ⟨iq,dq,jA,uH,kB,_⟩:=du dx
 refine ⟨.agg ((vs.drop (k.toNat * q.sz)).take q.sz).toArray,.agg _ _ ((hl.drop _).take _),fun w' _=>?_⟩
 have Dh:(isAgg r.el).run X.Z.P w'=.ok true w':=by rw[nx uH,Bf dx,XV]
 have aaM:vs.toArray.extract (k.toNat * q.sz) (k.toNat * q.sz+q.sz)=((vs.drop (k.toNat * q.sz)).take q.sz).toArray:=by
  simp[List.extract_eq_drop_take]
 simp[execOp,ho,e1,eB,Instr.index,asIntOf,run_underlying (rI cj hk),h0,h1,fE dx,part,Dh,aaM]
end
end Go.Ab
namespace Go.Ab
open Go Go.RowKit
mutual
def kd (p g:Nat):D→D
 |.os _ _=>.os p g
 |.agg l=>.agg (ua p g l)
 |d=>d
def ua (p g:Nat):List D→List D
 |[]=>[]
 |d::l=>kd p g d::ua p g l
end
mutual
inductive PO:D→Prop
 |pure (d:D):Pure d→PO d
 |os (s g:Nat):PO (.os s g)
 |agg (l:List D):KB l→PO (.agg l)
inductive KB:List D→Prop
 |nil:KB []
 |cons (d:D) (l:List D):PO d→KB l→KB (d::l)
end
section
variable {κ aA:Nat→Nat→Option Value}{γ cU:Nat→Nat}{sv aQ:Nat→Value}
mutual
theorem BH (bQ:∀ b o v,κ b o=some v→aA b o=some v) {p g p' g':Nat} (hg:γ p=g) (ym:cU p'=g') (hv:aQ p'=sv p):∀ {d:D}{v:Value},PO d→aW κ γ sv (kd p g d) v→aW aA cU aQ (kd p' g' d) v
 |.os s0 g0,v,_,hr=>by
  simp only[kd]at hr ⊢
  cases hr with
  |os _ _ _ h1 h2 h3=>exact .os _ _ _ (Nat.le_of_eq ym.symm) (fun _=>by rw[hv];exact h2 hg.symm) h3
 |.agg l,v,hp,hr=>by
  simp only[kd]at hr ⊢
  cases hr with
  |agg _ vs hl=>exact .agg _ _ (Oe bQ hg ym hv (by
    cases hp with
    |pure _ hp=>exact YU (by cases hp;assumption)
    |agg _ hp=>exact hp) hl)
 |.int k n,v,hp,hr=>by cases hr;exact .int _ _
 |.bool b,v,hp,hr=>by cases hr;exact .bool _
 |.str s,v,hp,hr=>by cases hr;exact .str _
 |.bn l,v,hp,hr=>by cases hp with|pure _ hp=>exact aW.pure bQ hr hp
 |.sl z n f,v,hp,hr=>by cases hp with|pure _ hp=>exact aW.pure bQ hr hp
 |.nil,v,hp,hr=>by cases hr;exact .nil
 |.rp l o,v,hp,hr=>by cases hp with|pure _ hp=>exact aW.pure bQ hr hp
 |.bx s g o,v,hp,hr=>by cases hp with|pure _ hp=>cases hp
 |.mb s g T,v,hp,hr=>by cases hp with|pure _ hp=>cases hp
 |.op s g z i o,v,hp,hr=>by cases hp with|pure _ hp=>cases hp
 |.ow s g z a m,v,hp,hr=>by cases hp with|pure _ hp=>cases hp
 |.fn f c,v,hp,hr=>by cases hp with|pure _ hp=>exact aW.pure bQ hr hp
 |.yl l,v,hp,hr=>by cases hr;exact .yl _
 |.mf f c,v,hp,hr=>by cases hp with|pure _ hp=>exact aW.pure bQ hr hp
 |.one,v,_,hr=>by cases hr;exact .one _ (by assumption)
 |.lk c,v,_,hr=>by cases hr;exact .lk _ _ (by assumption)
 |.undef,v,_,_=>.undef v
theorem Oe (bQ:∀ b o v,κ b o=some v→aA b o=some v) {p g p' g':Nat} (hg:γ p=g) (ym:cU p'=g') (hv:aQ p'=sv p):∀ {l:List D}{vs:List Value},KB l→aD κ γ sv (ua p g l) vs→aD aA cU aQ (ua p' g' l) vs
 |[],vs,_,hr=>by simp only[ua]at hr ⊢;cases hr;exact .nil
 |d::l,vs,hp,hr=>by
  simp only[ua]at hr ⊢
  cases hr with
  |cons _ v _ vs h1 h2 =>
   cases hp with
   |cons _ _ p1 p2=>exact .cons _ _ _ _ (BH bQ hg ym hv p1 h1) (Oe bQ hg ym hv p2 h2)
theorem YU:∀ {l:List D},(∀ d∈l,Pure d)→KB l
 |[],_=>.nil
 |d::l,h=>.cons d l (.pure d (h d (List.mem_cons_self ..))) (YU fun x hx=>h x (List.mem_cons_of_mem _ hx))
end
end
structure kK (Z:Seat) (f:FuncId) (A:List D) (R:D) (E z n:Nat) (el:Nat→List D):Prop where
 j6:ab A
 FL:PO R
 sO:∀ i,i<n→ab (el i)
 body:gD Z.P f
 calls:∀ (w:World) (κ:Nat→Nat→Option Value) (args:List Value),Fits κ w→iA Z κ w→aD κ gO eV A args →
  Calls Z.P f args.toArray w fun e w'=>∃ v sl aA,e=.returned v∧aW aA (fun _=>1) (fun _=>sl) (kd 0 1 R) v∧(∀ b o u,κ b o=some u→aA b o=some u)∧(∀ b o u,b<w.heap.size→aA b o=some u→κ b o=some u) ∧
   (∀ b o u,aA b o=some u→w'.cell? ⟨b,o,none⟩=some u)∧sl.oneCell'=true∧fB w.heap.size aA (fun _=>1) (fun _=>sl) w' 0 (.arr E z n el)∧(∀ b,aL (.arr E z n el) sl=some b→∀ o,aA b o=none)∧Below w.heap.size w w'
def arn (X:Ctx) (rs:List ResultVar) (R:D) (E z n:Nat) (el:Nat→List D):Exit→St→Prop
 |.normal,S|.ret,S=>∃ s g,S.γ s=g∧S.σ s=.arr E z n el∧∃ ds,gZ X S rs ds∧fR ds=kd s g R
 |_,_=>False
theorem Ej {Z : Seat} {f : FuncId} {fn : Func} {c : Code} {A : List D} {R : D} {E z n : Nat} {el : Nat → List D} (hf : Z.P.funcs[f]? = some fn) (hb : fn.body = some c) (cV : (fn.name == "runtime.NumGoroutine") = false) (hn : Nat.ble A.length fn.ntmps = true) (hA : ab A) (hR : PO R) (hE : ∀ i, i < n → ab (el i))
  (h:∀ w κ,W (Ctx.plain Z fn.ntmps w κ none) c (arn (Ctx.plain Z fn.ntmps w κ none) fn.results.toList R E z n el) (St.init A)):kK Z f A R E z n el:=by
 refine ⟨hA,hR,hE,⟨fn,c,hf,hb,cV⟩,fun w κ args bQ dV cq=>?_⟩
 refine (callsIn_wide (n:=0)).1 (callsIn_of_wp_marks hf hb trivial ?_ rfl)
 have hlen:A.length≤fn.ntmps:=Nat.le_of_ble_eq_true hn
 have sE:=cq.length
 have fK:bk (Ctx.plain Z fn.ntmps w κ none) κ eV (St.init A) { tmps:=args.toArray++Array.replicate (fn.ntmps - args.toArray.size) Go.undef,defers:=[] } w:=by
  refine ⟨by simp[Ctx.plain];omega,jU.nil rfl,fun i _=>jq cq _ i,?_⟩
  exact⟨bQ,fun _=>trivial,(fun s t b hs=>by cases hs),(fun s b o hs=>by cases hs),(fun s b hs=>by cases hs),⟨fun _=>False,⟨Frame.refl _ _,fun _ h=>h.elim⟩,fun s b hs=>by cases hs⟩,dV.1,fun b o v _ hk=>hk,(fun b hb=>by cases hb),Nat.le_refl _,⟨fun _ _ _ h=>(by cases h),fun _=>Nat.zero_le _,fun _ _=>rfl⟩,fun _ _ _ _ h=>h,fun _ _ _ h=>h,fun _ h=>h.elim,lM dV (fun _ e=>by cases e) (fun _ e=>e.elim)⟩
 refine wpIn_mono (h w κ κ eV _ w fK) ?_
 rintro e a' w' ⟨aA,aQ,S',hs,hq⟩
 cases e<;>first|exact hq.elim|skip
 all_goals
  obtain ⟨s,g,hg,aF,ds,hd,aaQ⟩:=hq
  obtain ⟨Ds,d1,d2,d3,_⟩:=hs.defers
  show LeavesInM _ _ _ _ _ _ a'.defers _ _
  rw[d1]
  refine j3 rfl kc hd (fun a w' v hs h2=>?_) Ds a' w' hs d1 d2 d3
  rw[aaQ]at h2
  obtain ⟨M,h1,_⟩:=hs.aJ.frame
  have aP:=hs.aJ.own s
  rw[aF]at aP
  have hk:∀ b o u,aA b o=some u→(fun b o=>if b<w.heap.size then κ b o else aA b o) b o=some u:=fun b o u hu=>by
   simp only
   split
   ·exact hs.aJ.nf b o u (by assumption) hu
   ·exact hu
  have Cp:(aQ s).oneCell'=true:=by
   obtain ⟨xs,e1,_⟩:=aP
   rcases e1.2 with ⟨hv,_⟩|⟨b,off,cap,cur,hv,_⟩<;>rw[hv]<;>rfl
  refine ⟨v,aQ s,fun b o=>if b<w.heap.size then κ b o else aA b o,rfl,BH (p:=s) (g:=g) (p':=0) (g':=1) (cU:=fun _=>1) (aQ:=fun _=>aQ s) hk hg rfl rfl hR h2,fun b o u hu=>?_,fun b o u hb hu=>?_,fun b o u hu=>?_,Cp,?_,fun b hb o=>?_,h1.1.below⟩
  ·have:b<w.heap.size:=by have:=World.block_lt_of_cell? w _ (bQ b o u hu);simpa using this
   simp only;rw[if_pos this];exact hu
  ·simp only at hu;rw[if_pos hb]at hu;exact hu
  ·simp only at hu
   split at hu
   ·rename_i hb
    have h3:=bQ b o u hu
    rw[h1.1.below.cell (by simpa using hb)];exact h3
   ·exact hs.aJ.gU b o u hu
  ·obtain ⟨xs,e1,e2,e3,e4⟩:=aP
   exact⟨xs,e1,e2,e3,fun i hi=>(e4 i hi).pure hk (hE i hi)⟩
  ·have bP:aL (S'.σ s) (aQ s)=some b:=by rw[aF];exact hb
   have h3:=hs.aJ.oI s b bP
   have h4:w.heap.size≤b:=h3.resolve_right (fun h=>by rcases h with h|h<;>cases h)
   simp only;rw[if_neg (by omega)]
   exact hs.aJ.sep s b o bP
section
variable {X:Ctx}{κ aA:Nat→Nat→Option Value}{sv:Nat→Value}{S:St}{w w':World}
theorem cE.Sm (h:cE X κ sv S w) (hb:Below w.heap.size w w') (k1:∀ b o u,κ b o=some u→aA b o=some u) (k2:∀ b o u,b<w.heap.size→aA b o=some u→κ b o=some u) (k3:∀ b o u,aA b o=some u→w'.cell? ⟨b,o,none⟩=some u)
  (p:Nat) (ow:Own) (sl:Value) (ee:∀ b,aL ow sl=some b→w.heap.size≤b∧b<w'.heap.size∧∀ o,aA b o=none) (ho:fB (X.base p) aA (aG S.γ p (S.γ p+1)) (aG sv p sl) w' p ow) (rZ:Nat→D) :
  cE X aA (aG sv p sl) ⟨rZ,aG S.γ p (S.γ p+1),aG S.σ p ow⟩ w':=by
 have hle:Le κ aA S.γ (aG S.γ p (S.γ p+1)) sv (aG sv p sl):=by
  obtain ⟨a,b,c⟩:=eY κ S.γ sv p sl
  exact⟨k1,b,c⟩
 have bP:∀ t b,aL (aG S.σ p ow t) (aG sv p sl t)=some b→(t=p∧aL ow sl=some b)∨(t≠p∧aL (S.σ t) (sv t)=some b):=by
  intro t b hb
  by_cases e:t=p
  ·subst e;rw[aC,aC]at hb;exact .inl ⟨rfl,hb⟩
  ·rw[bh _ _ _ _ e,bh _ _ _ _ e]at hb;exact .inr ⟨e,hb⟩
 obtain ⟨h1,h2,h3,h4,h5,⟨M,h6,vX⟩,h7,h8,h9,fT,iD,jz,jm,gK,kA⟩:=h
 refine ⟨k3,fun t=>?_,fun t u b ht hu=>?_,fun t b o ht=>?_,fun t b ht=>?_,⟨_,X.cl M w w' h6 ⟨hb.os,hb.tape,hb.output,hb.size,fun k hk _=>hb.block k hk⟩,fun t b ht=>?_⟩,fun g l uI=>?_,fun b o v cz hk=>?_,fun b bz=>?_,Nat.le_trans fT hb.size,iD.trans hle,fun b o v hk hT=>?_,fun t b ht hT=>?_,fun b hT=>Nat.lt_of_lt_of_le (gK b hT) hb.size,kA⟩
 ·by_cases e:t=p
  ·subst e;simp only[aC];exact ho
  ·simp only[bh _ _ _ _ e]
   exact dZ hle (bh _ _ _ _ e) (fun b bz=>hb.block b (cP (h2 t) bz)) (h2 t)
 ·simp only at ht hu
  rcases bP t b ht with ⟨rfl,a1⟩|⟨e1,a1⟩<;>rcases bP u b hu with ⟨rfl,a2⟩|⟨e2,a2⟩
  ·rfl
  ·have:=cP (h2 u) a2;have:=(ee b a1).1;omega
  ·have:=cP (h2 t) a1;have:=(ee b a2).1;omega
  ·exact h3 t u b a1 a2
 ·simp only at ht
  rcases bP t b ht with ⟨rfl,a1⟩|⟨e1,a1⟩
  ·exact(ee b a1).2.2 o
  ·cases hk:aA b o with
   |none=>rfl
   |some v=>have yh:=k2 b o v (cP (h2 t) a1) hk;rw[h4 t b o a1]at yh;cases yh
 ·simp only at ht
  rcases bP t b ht with ⟨rfl,a1⟩|⟨e1,a1⟩
  ·exact .inl (Nat.le_trans fT (ee b a1).1)
  ·exact h5 t b a1
 ·simp only at ht
  rcases bP t b ht with ⟨rfl,a1⟩|⟨e1,a1⟩
  ·exact .inr (ee b a1).1
  ·exact .inl (vX t b a1)
 ·obtain ⟨hc,u,hu,hk⟩:=h7 g l uI
  exact⟨hc,u,hu.mono hle,fun j v hj=>k1 _ _ _ (hk j v hj)⟩
 ·exact h8 b o v cz (k2 b o v (Nat.lt_of_lt_of_le cz fT) hk)
 ·obtain ⟨e1,e2⟩:=h9 b bz
  by_cases e:0=p
  ·subst e;simp only[aC];exact⟨by omega,fun e=>by omega⟩
  ·simp only[bh _ _ _ _ e];exact⟨e1,e2⟩
 ·by_cases e:b<w.heap.size
  ·exact jz b o v (k2 b o v e hk) hT
  ·have:=gK b hT;omega
 ·simp only at ht
  rcases bP t b ht with ⟨rfl,a1⟩|⟨e1,a1⟩
  ·have:=gK b hT;have:=(ee b a1).1;omega
  ·exact jm t b a1 hT
end
section
variable {X:Ctx}{Q:Exit→St→Prop}{S:St}{ops:Array Oper}{o:Oper}{rest:List Oper}
end
section
variable {X:Ctx}{S:St}
theorem HF (s:Nat) {E z n:Nat}{f:Nat→List D} (f':Nat→List D) (aF:S.σ s=.arr E z n f) (h:∀ i,i<n→vk (f i) (f' i)):Wk X S ⟨S.ρ,S.γ,aG S.σ s (.arr E z n f')⟩:=fun κ sv a w hs=>by
 have aP:=hs.aJ.own s
 rw[aF]at aP
 obtain ⟨xs,e1,e2,e3,e4⟩:=aP
 have nl:∀ {l l':List D},vk l l'→l'.length=l.length:=by
  intro l
  induction l with
  |nil=>intro l' h;cases l'<;>first|rfl|exact h.elim
  |cons d l ih=>intro l' h;cases l' with
   |nil=>exact h.elim
   |cons d' l'=>simp[ih h.2]
 refine ⟨κ,sv,⟨hs.size,hs.defers,hs.slot,?_⟩⟩
 refine hs.aJ.rewrite s (.arr E z n f') (cL (Below.refl _ _) _) (by
  rw[aF]
  cases sv s with
  |pointer a=>cases a<;>rfl
  |slice a=>cases a<;>rfl
  |map a=>cases a<;>rfl
  |_=>rfl) ⟨xs,e1,fun i hi=>by rw[nl (h i hi)];exact e2 i hi,fun i hi=>uM (h i hi) (e3 i hi),fun i hi=>iS (h i hi) (e4 i hi)⟩ _
theorem Ai:∀ l:List D,vk l l
 |[]=>trivial
 |_::l=>⟨.inl rfl,Ai l⟩
end
section
variable {X:Ctx}{Q:Exit→St→Prop}{S S0:St}{ops:Array Oper}{o:Oper}{rest:List Oper}{E:List VT}{V:List Vl}
end
end Go.Ab
namespace Go.Ab
open Go Go.RowKit
section
variable {X:Ctx}{o:Oper}{S:St}{x y:Operand}
theorem anZ {T:TypeId}{r q:dM}{l:List D}{j:Nat}{k:Int} (ho:o.op=.indexAddr T x y) (hx:S.ev X x=.rp l j) (hy:S.ev X y=.int .i64 k) (h0:0≤k)
  (hr:nth X.Z.bL T=some r) (hk:Nat.beq r.k 2=true) (h1:k<r.ln) (hq:nth X.Z.bL r.el=some q) (dF:Nat.beq q.k 9=false):dy X o S (.rp l (j+k.toNat * q.sz)):=fun κ sv a w hs=>by
 have cj:=X.Z.bG _ _ hr (by intro e;rw[e]at hk;cases hk)
 have dx:=X.Z.bG _ _ hq (by intro e;rw[e]at dF;cases dF)
 have eB:=pk (hy ▸ hs.ev y)
 have h1':=hs.ev x
 rw[hx]at h1'
 generalize he:a.eval x=v at h1'
 cases h1' with
 |rp _ _ b bo u hc hu bQ =>
  refine ⟨.pointer (some ⟨b,bo+(j+k.toNat * q.sz),none⟩),.rp l _ b bo u hc hu bQ,fun w' _=>?_⟩
  simp[execOp,ho,he,eB,Instr.indexAt,asIntOf,run_underlying (rI cj hk),Instr.sureAddr,h0,h1,fE dx,addr_add,Nat.add_assoc]
end
end Go.Ab
namespace Go.Ab
open Go Go.RowKit
section
variable {X:Ctx}{Q:Exit→St→Prop}{S T0:St}{ops:Array Oper}{o:Oper}{rest:List Oper}{S0:St}{E:List VT}{V:List Vl}
end
end Go.Ab
namespace Go.Ab
open Go Go.RowKit
theorem Bj {E z n E' z' n':Nat}{f f':Nat→List D} (v:Value):aL (.arr E z n f) v=aL (.arr E' z' n' f') v:=by
 cases v with
 |pointer a=>cases a<;>rfl
 |slice a _ _=>cases a<;>rfl
 |map a=>cases a<;>rfl
 |_=>rfl
def Z8 (v:Option Value) (i d:Nat):Prop:=(v=none∧i=d)∨v=some (.int .i64 i)
theorem vJ {P:Program}{w:World}{T e:TypeId}{q:dM} (hu:P.underlying T=some (.slice e)) (hq:kt P e q=true) {a:Option Addr}{len cap:Nat}{lo hi:Option Value}{i j:Nat}
  (zR:Z8 lo i 0) (zQ:Z8 hi j len) (yn:i≤j) (hjc:j≤cap) :
  (Instr.sliceAt T (.slice a len cap) lo hi none).run P w=.ok (.slice (if cap=i then a else a.map (·.add (i * q.sz))) (j - i) (cap - i)) w:=by
 rcases zR with ⟨rfl,rfl⟩|rfl<;>rcases zQ with ⟨rfl,rfl⟩|rfl <;>
  simp[Instr.sliceAt,Instr.slice,Instr.sliceBounds,Instr.sliceBound,asIntOf,run_underlying hu,fE hq,yn,hjc]
section
variable {X:Ctx}{o:Oper}{S:St}{x:Operand}
def sd (X:Ctx) (S:St) (v:Option Operand) (i d:Nat):Prop:=(v=none∧i=d)∨∃ y,v=some y∧S.ev X y=.int .i64 i
theorem sd.v {κ:Nat→Nat→Option Value}{sv:Nat→Value}{a:Act}{w:World} (hs:bk X κ sv S a w) {v:Option Operand}{i d:Nat} (h:sd X S v i d):Z8 (v.map a.eval) i d:=by
 rcases h with ⟨rfl,rfl⟩|⟨y,rfl,hy⟩
 ·exact .inl ⟨rfl,rfl⟩
 ·exact .inr (by simp[dQ hs hy])
theorem aod {T:TypeId}{r q:dM}{z n i j:Nat}{f f':Nat→List D}{lo hi:Option Operand} (ho:o.op=.slice T x lo hi none) (hx:S.ev X x=.sl z n f)
  (zR:sd X S lo i 0) (zQ:sd X S hi j n) (yn:i≤j) (hjn:j≤n)
  (hr:nth X.Z.bL T=some r) (hk:Nat.beq r.k 3=true) (hq:nth X.Z.bL r.el=some q) (dF:Nat.beq q.k 9=false) (hz:q.sz=z) (hf:∀ k,k<j - i→f' k=f (i+k)) :
  dy X o S (.sl z (j - i) f'):=fun κ sv a w hs=>by
 have fY:=X.Z.bG _ _ hr (by intro e;rw[e]at hk;cases hk)
 have dx:=X.Z.bG _ _ hq (by intro e;rw[e]at dF;cases dF)
 have hu:=dp fY hk
 have cH:=hs.ev x
 rw[hx]at cH
 have key:∀ (b:Option Addr) (cap:Nat),a.eval x=.slice b n cap→n≤cap→∀ w',(execOp a.eval o).run X.Z.P w'=.ok (.value (.slice (if cap=i then b else b.map (·.add (i * q.sz))) (j - i) (cap - i))) w':=fun b cap he iX w'=>by
  have:=vJ (P:=X.Z.P) (w:=w') (a:=b) (len:=n) (cap:=cap) hu dx (zR.v hs) (zQ.v hs) yn (by omega)
  simp only[execOp,ho,he,Option.map_none]
  simp[this]
 generalize he:a.eval x=v at cH
 cases cH with
 |sl _ _ _ b off cap u iX h1 h2 h3 h4 =>
  refine ⟨_,?_,fun w' _=>key _ _ he iX w'⟩
  by_cases Il:cap=i
  ·have:j - i=0:=by omega
   simp only[if_pos Il]
   rw[this]
   exact .kV _ _ _ _
  ·simp only[if_neg Il,Option.map_some,addr_add]
   subst hz
   refine .sl _ _ _ b (off+i * q.sz) (cap - i) (fun k=>u (i+k)) (by omega) (fun k hk=>by rw[hf k hk];exact h1 _ (by omega)) (fun k hk=>by rw[hf k hk];exact h2 _ (by omega)) (fun k hk=>by rw[hf k hk];exact h3 _ (by omega)) (fun k m v hk hm=>?_)
   have:=h4 (i+k) m v (by omega) hm
   rw[Nat.add_mul]at this
   rw[← this];congr 1;omega
 |lI =>
  have hj:j=0:=by omega
  have hi:i=0:=by omega
  subst hj hi
  exact⟨_,.lI _ _,fun w' _=>key _ _ he (Nat.le_refl _) w'⟩
 |kV _ _ ad cap =>
  have hj:j=0:=by omega
  have hi:i=0:=by omega
  subst hj hi
  refine ⟨_,?_,fun w' _=>key _ _ he (Nat.zero_le _) w'⟩
  split
  ·exact .kV _ _ _ _
  ·exact .kV _ _ _ _
theorem alD {T:TypeId}{r q:dM}{z n i j m:Nat}{f f':Nat→List D}{lo:Option Operand}{hi mx:Operand} (ho:o.op=.slice T x lo (some hi) (some mx)) (hx:S.ev X x=.sl z n f)
  (zR:sd X S lo i 0) (zQ:S.ev X hi=.int .i64 j) (hmx:S.ev X mx=.int .i64 m) (yn:i≤j) (hjm:j≤m) (hmn:m≤n)
  (hr:nth X.Z.bL T=some r) (hk:Nat.beq r.k 3=true) (hq:nth X.Z.bL r.el=some q) (dF:Nat.beq q.k 9=false) (hz:q.sz=z) (hf:∀ k,k<j - i→f' k=f (i+k)) :
  dy X o S (.sl z (j - i) f'):=fun κ sv a w hs=>by
 have fY:=X.Z.bG _ _ hr (by intro e;rw[e]at hk;cases hk)
 have dx:=X.Z.bG _ _ hq (by intro e;rw[e]at dF;cases dF)
 have hu:=dp fY hk
 have cH:=hs.ev x
 rw[hx]at cH
 have e1:=dQ hs zQ
 have e2:=dQ hs hmx
 have key:∀ (b:Option Addr) (cap:Nat),a.eval x=.slice b n cap→n≤cap→∀ w',(execOp a.eval o).run X.Z.P w'=.ok (.value (.slice (if m=i then b else b.map (·.add (i * q.sz))) (j - i) (m - i))) w':=fun b cap he iX w'=>by
  have QS:m≤cap:=by omega
  have:(Instr.sliceAt T (.slice b n cap) (lo.map a.eval) (some (.int .i64 j)) (some (.int .i64 m))).run X.Z.P w'=.ok (.slice (if m=i then b else b.map (·.add (i * q.sz))) (j - i) (m - i)) w':=by
   rcases zR.v hs with ⟨h1,rfl⟩|h1<;>rw[h1] <;>
    simp[Instr.sliceAt,Instr.slice,Instr.sliceBounds,Instr.sliceBound,asIntOf,run_underlying hu,fE dx,yn,hjm,QS]
  simp only[execOp,ho,he,Option.map_some,e1,e2]
  simp[this]
 generalize he:a.eval x=v at cH
 cases cH with
 |sl _ _ _ b off cap u iX h1 h2 h3 h4 =>
  refine ⟨_,?_,fun w' _=>key _ _ he iX w'⟩
  by_cases Il:m=i
  ·have:j - i=0:=by omega
   simp only[if_pos Il]
   rw[this]
   exact .kV _ _ _ _
  ·simp only[if_neg Il,Option.map_some,addr_add]
   subst hz
   refine .sl _ _ _ b (off+i * q.sz) (m - i) (fun k=>u (i+k)) (by omega) (fun k hk=>by rw[hf k hk];exact h1 _ (by omega)) (fun k hk=>by rw[hf k hk];exact h2 _ (by omega)) (fun k hk=>by rw[hf k hk];exact h3 _ (by omega)) (fun k m v hk hm=>?_)
   have:=h4 (i+k) m v (by omega) hm
   rw[Nat.add_mul]at this
   rw[← this];congr 1;omega
 |lI =>
  have hj:j=0:=by omega
  have hi:i=0:=by omega
  have hm:m=0:=by omega
  subst hj hi hm
  exact⟨_,.lI _ _,fun w' _=>by have:=key _ _ he (Nat.le_refl _) w';simpa using this⟩
 |kV _ _ ad cap =>
  have hj:j=0:=by omega
  have hi:i=0:=by omega
  have hm:m=0:=by omega
  subst hj hi hm
  exact⟨_,.kV _ _ _ _,fun w' _=>by have:=key _ _ he (Nat.zero_le _) w';simpa using this⟩
theorem anF {T E:TypeId}{r q:dM}{s g z n i j t n':Nat}{f f':Nat→List D}{lo hi:Option Operand} (ho:o.op=.slice T x lo hi none) (hd:o.dst=some t) (hx:S.ev X x=.os s g) (hg:S.γ s=g) (aF:S.σ s=.arr E z n f)
  (zR:sd X S lo i 0) (zQ:sd X S hi j n) (yn:i≤j) (hjn:j≤n)
  (hr:nth X.Z.bL T=some r) (hk:Nat.beq r.k 3=true) (hE:r.el=E) (hq:nth X.Z.bL E=some q) (dF:Nat.beq q.k 9=false) (hz:q.sz=z) (od:n'=j - i) (hf:∀ k,k<j - i→f' k=f (i+k)) :
  kf X o S (S.owned t s (.arr E z n' f')):=fun κ sv a w hs=>by
 subst od hz hE
 have fY:=X.Z.bG _ _ hr (by intro e;rw[e]at hk;cases hk)
 have dx:=X.Z.bG _ _ hq (by intro e;rw[e]at dF;cases dF)
 have hu:=dp fY hk
 have fq:=hs.aJ.own s
 rw[aF]at fq
 obtain ⟨xs,aP,gT,mS,eI⟩:=fq
 have cH:=hs.ev x
 rw[hx]at cH
 have gk:a.eval x=sv s:=by
  generalize a.eval x=v at cH
  cases cH with
  |os _ _ _ _ hh _=>exact hh hg.symm
 have key:∀ (b:Option Addr) (cap:Nat),sv s=.slice b n cap→n≤cap→(execOp a.eval o).run X.Z.P w=.ok (.value (.slice (if cap=i then b else b.map (·.add (i * q.sz))) (j - i) (cap - i))) w:=fun b cap he iX=>by
  have:=vJ (P:=X.Z.P) (w:=w) (a:=b) (len:=n) (cap:=cap) hu dx (zR.v hs) (zQ.v hs) yn (by omega)
  simp only[execOp,ho,gk,he,Option.map_none]
  simp[this]
 have hdj:∀ (k:Nat),k<j - i→((xs.drop (i * q.sz)).take ((j - i) * q.sz) |>.drop (k * q.sz)).take q.sz=(xs.drop ((i+k) * q.sz)).take q.sz:=fun k hk=>by
  have h1:k * q.sz+q.sz≤(j - i) * q.sz:=by have:=Nat.mul_le_mul_right q.sz (show k+1≤j - i by omega);rw[Nat.add_mul]at this;omega
  rw[List.drop_take,List.take_take,Nat.min_eq_left (by omega),List.drop_drop,Nat.add_mul]
 have tA:∀ pv:Value,pv.oneCell'=true→(∀ b,aL (S.σ s) pv=some b→aL (S.σ s) (sv s)=some b)→eo w (X.base s) r.el q.sz pv (j - i) ((xs.drop (i * q.sz)).take ((j - i) * q.sz)) →
   (execOp a.eval o).run X.Z.P w=.ok (.value pv) w →
   ∃ v w' aA aQ,((execOp a.eval o).run X.Z.P w=.ok (.value v) w'∨((execOp a.eval o).run X.Z.P w=.ok .skip w'∧v=Go.undef))∧bk X aA aQ (S.owned t s (.arr r.el q.sz (j - i) f')) (a.put o.dst v) w':=fun pv XF hb hO bX=>by
  rw[hd]
  refine ⟨pv,w,κ,aG sv s pv,.inl bX,fk hs t s (pv:=pv) XF (cL (Below.refl _ _) _) (fun b bz=>.inr (hb b (by rw[aF];rw[Bj]at bz;exact bz))) ?_⟩
  refine ⟨_,by rw[aC];exact hO,fun k hk=>by rw[hf k hk];exact gT _ (by omega),fun k hk=>by rw[hf k hk];exact mS _ (by omega),fun k hk=>?_⟩
  rw[hf k hk,hdj k hk]
  exact(eI (i+k) (by omega)).mono (eY κ S.γ sv s pv)
 rcases aP.2 with ⟨hv,hn⟩|⟨b,off,cap,cur,hv,dj,hh,iX,rP,jZ,gR⟩
 ·have hj:j=0:=by omega
  have hi:i=0:=by omega
  subst hj hi
  refine tA _ rfl (fun b hb=>?_) ⟨by simp,.inl ⟨rfl,rfl⟩⟩ (by have:=key none 0 (by rw[hv,hn]) (by omega);simpa using this)
  rw[aF]at hb;cases hb
 ·refine tA _ ?_ ?_ ?_ (key _ _ hv iX)
  ·simp only[Option.map_some];split<;>rfl
  ·intro b' bz
   rw[aF]at bz ⊢
   rw[hv]
   simp only[Option.map_some,addr_add]at bz
   split at bz<;>exact bz
  ·have bS:=aP.1
   have eJ:i * q.sz≤n * q.sz:=Nat.mul_le_mul_right _ (by omega)
   have av0:i * q.sz+(j - i) * q.sz≤n * q.sz:=by rw[← Nat.add_mul];exact Nat.mul_le_mul_right _ (by omega)
   refine ⟨by simp;omega,.inr ?_⟩
   by_cases Il:cap=i
   ·have h0:j - i=0:=by omega
    rw[if_pos Il,h0]
    exact⟨b,off,cap - i,cur,rfl,dj,hh,by omega,by omega,by rw[show cap - i=0 by omega];omega,by simp⟩
   ·rw[if_neg Il]
    simp only[Option.map_some,addr_add]
    refine ⟨b,off+i * q.sz,cap - i,cur,rfl,dj,hh,by omega,by omega,?_,?_⟩
    ·have:i * q.sz+(cap - i) * q.sz=cap * q.sz:=by rw[← Nat.add_mul];congr 1;omega
     omega
    ·rw[← gR,List.drop_take,List.take_take,List.drop_drop,Nat.min_eq_left (by omega)]
end
end Go.Ab
namespace Go.Ab
open Go Go.RowKit
section
variable {X:Ctx}{o:Oper}{S:St}{x y:Operand}{T T2:TypeId}
theorem va {P:Program}{t:TypeId}{d:TypeDesc}{w:World} (hd:P.underlying t=some d) (ha:nA P t=false) {a:Addr}{v:Value} (h:w.cell? a=some v):(loadVar t a).run P w=.ok v w:=by
 simp[loadVar,nx hd,ha,h]
theorem alu {l:List D}{j:Nat}{d:D}{td:TypeDesc} (ho:o.op=.load T x) (hx:S.ev X x=.rp l j) (hu:X.Z.P.underlying T=some td) (ha:nA X.Z.P T=false) (hd:nth l j=some d):dy X o S d:=fun κ sv a w hs=>by
 have h1:=hs.ev x
 rw[hx]at h1
 generalize he:a.eval x=v at h1
 cases h1 with
 |rp _ _ b off u _ we bQ =>
  rw[eU]at hd
  obtain ⟨vj,hv,cq⟩:=we.get hd
  refine ⟨vj,cq,fun w' hb=>?_⟩
  have hc:=hs.aJ.gU _ _ _ (bQ j vj hv)
  have lB:w'.cell? ⟨b,off+j,none⟩=some vj:=(hb.cell (World.block_lt_of_cell? w _ hc)).trans hc
  simp[execOp,ho,he,Instr.loadAt,Instr.sureAddr,va hu ha lB]
theorem alq {s g j:Nat}{l:List D}{d:D}{td:TypeDesc} (ho:o.op=.load T x) (hx:S.ev X x=.bx s g j) (hu:X.Z.P.underlying T=some td) (ha:nA X.Z.P T=false)
  (hg:S.γ s=g) (aF:S.σ s=.box l) (hd:nth l j=some d):dy X o S d:=fun κ sv a w hs=>by
 obtain ⟨b,Tb,cs,he,_,hh,cq,_⟩:=mF hs hx hg aF
 rw[eU]at hd
 obtain ⟨vj,hv,wb⟩:=cq.get hd
 refine ⟨vj,wb,fun w' hb=>?_⟩
 have tD:w'.heap[b]?=some (.cells (List.toArray cs) Tb (0,0)):=by rw[hb.block b (Array.getElem?_eq_some_iff.1 hh).1];exact hh
 have lB:w'.cell? ⟨b,j,none⟩=some vj:=by rw[cell_of_row w' b j _ _ _ tD];simpa using hv
 simp[execOp,ho,he,Instr.loadAt,Instr.sureAddr,va hu ha lB]
theorem alw {s:ByteArray}{ts:Array TypeId} (ho:o.op=.call { callee:=.builtin .len,args:=#[x],argTypes:=ts }) (hT:ts[0]?=some T) (hx:S.ev X x=.str s)
  (hu:X.Z.P.underlying T=some .string):dy X o S (.int .i64 s.size):=fun κ sv a w hs =>
 ⟨.int .i64 s.size,.int _ _,fun w' _=>by simp[execOp,ho,resolve,invoke,builtin,Builtin.len_,hT,vR hs hx,run_underlying hu,goInt]⟩
theorem aln {s:ByteArray}{i:Int}{b:UInt8} (ho:o.op=.index T x y) (hx:S.ev X x=.str s) (hy:S.ev X y=.int .i64 i) (hu:X.Z.P.underlying T=some .string) (h0:0≤i) (hb:s[i.toNat]?=some b) :
  dy X o S (.int .u8 b.toNat):=fun κ sv a w hs =>
 ⟨.int .u8 b.toNat,.int _ _,fun w' _=>by simp[execOp,ho,vR hs hx,dQ hs hy,Instr.index,asIntOf,run_underlying hu,h0,hb]⟩
theorem anS {s t:ByteArray} (ho:o.op=.binOp .eql T x y T2) (hx:S.ev X x=.str s) (hy:S.ev X y=.str t):dy X o S (.bool (s.toList == t.toList)):=fun κ sv a w hs =>
 ⟨.bool (s.toList == t.toList),.bool _,fun w' _=>by simp[execOp,ho,vR hs hx,vR hs hy,eqGuard,binOp,Op.stringOp]⟩
theorem an9 {s t:ByteArray} (ho:o.op=.binOp .neq T x y T2) (hx:S.ev X x=.str s) (hy:S.ev X y=.str t):dy X o S (.bool (!(s.toList == t.toList))):=fun κ sv a w hs =>
 ⟨.bool (!(s.toList == t.toList)),.bool _,fun w' _=>by simp[execOp,ho,vR hs hx,vR hs hy,eqGuard,binOp,Op.stringOp]⟩
end
section
variable {X:Ctx}{o:Oper}{S:St}{x y:Operand}{T T2:TypeId}
theorem sx {P:Program}{w:World}{ty E:TypeId}{q:dM} (hu:P.underlying T=some (.slice E)) (hq:kt P E q=true) {d a:Option Addr}{n m c c':Nat} (h0:Nat.min m n=0) :
  (Builtin.copy_ #[T,T2] ty #[.slice d n c,.slice a m c']).run P w=.ok (goInt 0) w:=by
 have hl:∀ (x:Addr),(loadCells x 0).run P w=.ok #[] w:=fun x=>by simpa using run_loadCells_list (P:=P) w x [] (by simp)
 cases d<;>cases a<;>simp[Builtin.copy_,run_underlying hu,Builtin.lenOf,Builtin.firstCells,fE hq,h0,storeCells,hl]
theorem yH {P:Program}{w:World}{ty E:TypeId}{q:dM} (hu:P.underlying T=some (.slice E)) (hq:kt P E q=true) {g off n m c c' k:Nat}{ad:Addr}{cur:Array Value}{news:List Value}{e:TypeId} (hk:Nat.min m n=k)
  (hg:w.heap[g]?=some (.cells cur e (0,0))) (hl:news.length=k * q.sz) (hn:∀ j v,news[j]?=some v→w.cell? (ad.add j)=some v) (h1:∀ v∈news,v.oneCell'=true) (Dk:off+news.length≤cur.size) :
  (Builtin.copy_ #[T,T2] ty #[.slice (some ⟨g,off,none⟩) n c,.slice (some ad) m c']).run P w=.ok (goInt k) (w.setRow g (cur.toList.take off++news++cur.toList.drop (off+news.length)).toArray):=by
 have hld:=run_loadCells_list (P:=P) w ad news hn
 rw[hl]at hld
 have jn:=run_storeCells_at P g off e news 0 cur w hg (by simpa using Dk) h1
 simp only[Nat.add_zero]at jn
 simp[Builtin.copy_,run_underlying hu,Builtin.lenOf,Builtin.firstCells,fE hq,hk,hld,jn]
theorem akW {r q:dM}{s g z n m t k:Nat}{E:TypeId}{f h f':Nat→List D}{ts:Array TypeId} (ho:o.op=.call { callee:=.builtin .copy,args:=#[x,y],argTypes:=ts }) (fW:ts=#[T,T2]) (hd:o.dst=some t)
  (hx:S.ev X x=.os s g) (hg:S.γ s=g) (aF:S.σ s=.arr E z n f) (hy:S.ev X y=.sl z m h)
  (hr:nth X.Z.bL T=some r) (hk:Nat.beq r.k 3=true) (hE:r.el=E) (hq:nth X.Z.bL E=some q) (dF:Nat.beq q.k 9=false) (hz:q.sz=z) (iK:Nat.beq z 0=false)
  (oc:Nat.min m n=k) (h1:∀ i,i<k→f' i=h i) (h2:∀ i,k≤i→i<n→f' i=f i) :
  kf X o S ⟨aG S.ρ t (.int .i64 k),S.γ,aG S.σ s (.arr E z n f')⟩:=fun κ sv a w hs=>by
 subst fW hE hz
 have fY:=X.Z.bG _ _ hr (by intro e;rw[e]at hk;cases hk)
 have dx:=X.Z.bG _ _ hq (by intro e;rw[e]at dF;cases dF)
 have hu:=dp fY hk
 have fq:=hs.aJ.own s
 rw[aF]at fq
 obtain ⟨xs,aP,gT,mS,eI⟩:=fq
 have cH:=hs.ev x
 rw[hx]at cH
 have gk:a.eval x=sv s:=by
  generalize a.eval x=v at cH
  cases cH with
  |os _ _ _ _ hh _=>exact hh hg.symm
 have eB:=hs.ev y
 rw[hy]at eB
 have jK:0<q.sz:=by
  cases X2:q.sz with
  |zero=>rw[X2]at iK;cases iK
  |succ=>omega
 have hkm:k≤m:=oc ▸ Nat.min_le_left _ _
 have Cl:k≤n:=oc ▸ Nat.min_le_right _ _
 have tA:∀ (w':World) (oq:List Value),(Builtin.copy_ #[T,T2] o.type #[a.eval x,a.eval y]).run X.Z.P w=.ok (goInt k) w'→w.grownBy w' (aL (S.σ s) (sv s))→eo w' (X.base s) r.el q.sz (sv s) n oq →
   (∀ i,i<n→(f' i).length=q.sz)→(∀ i,i<n→aY (f' i)=true)→(∀ i,i<n→aD κ S.γ sv (f' i) ((oq.drop (i * q.sz)).take q.sz)) →
   ∃ v w' aA aQ,((execOp a.eval o).run X.Z.P w=.ok (.value v) w'∨((execOp a.eval o).run X.Z.P w=.ok .skip w'∧v=Go.undef))∧bk X aA aQ ⟨aG S.ρ t (.int .i64 k),S.γ,aG S.σ s (.arr r.el q.sz n f')⟩ (a.put o.dst v) w':=fun w' oq bX cG XR e2 e3 e4=>by
  have hW:=hs.aJ.rewrite s (.arr r.el q.sz n f') cG (by rw[aF];exact Bj _) ⟨oq,XR,e2,e3,e4⟩ S.ρ
  have hS:bk X κ sv ⟨S.ρ,S.γ,aG S.σ s (.arr r.el q.sz n f')⟩ a w':=⟨hs.size,ib hs s cG,hs.slot,hW⟩
  rw[hd]
  refine ⟨.int .i64 k,w',κ,sv,.inl ?_,hS.put (some t) (.int _ _)⟩
  simp[execOp,ho,resolve,invoke,builtin,bX,goInt]
 have hzero:∀ (b:Option Addr) (cap:Nat),a.eval y=.slice b m cap→k=0→∃ v w' aA aQ,((execOp a.eval o).run X.Z.P w=.ok (.value v) w'∨((execOp a.eval o).run X.Z.P w=.ok .skip w'∧v=Go.undef))∧bk X aA aQ ⟨aG S.ρ t (.int .i64 k),S.γ,aG S.σ s (.arr r.el q.sz n f')⟩ (a.put o.dst v) w':=fun b cap fG h0=>by
  refine tA w xs ?_ (cL (Below.refl _ _) _) aP (fun i hi=>by rw[h2 i (by omega) hi];exact gT i hi) (fun i hi=>by rw[h2 i (by omega) hi];exact mS i hi) (fun i hi=>by rw[h2 i (by omega) hi];exact eI i hi)
  rw[fG,gk,h0]
  rcases aP.2 with ⟨hv,_⟩|⟨g',off,iO,cur,hv,_⟩
  ·rw[hv];have:=sx (T2:=T2) (w:=w) (ty:=o.type) (d:=none) (a:=b) (n:=0) (m:=m) (c:=0) (c':=cap) hu dx (by simp)
   exact this
  ·rw[hv];exact sx hu dx (by rw[oc,h0])
 generalize fG:a.eval y=v at eB
 cases eB with
 |lI=>exact hzero _ _ fG (by omega)
 |kV=>exact hzero _ _ fG (by omega)
 |sl _ _ _ b off cap u QS Fb oa zX bQ =>
  by_cases Ck:k=0
  ·exact hzero _ _ fG Ck
  have pS:∀ i,i<k→(u i).length=q.sz:=fun i hi=>by rw[(zX i (by omega)).length,Fb i (by omega)]
  have kj:(((List.range k).map u).flatten).length=k * q.sz:=by
   rw[tq _ (z:=q.sz) (fun c hc=>by
    obtain ⟨j,hj,rfl⟩:=List.mem_map.1 hc
    exact pS j (by simpa using hj))]
   simp
  have pd:∀ j v,(((List.range k).map u).flatten)[j]?=some v→∃ i l,i<k∧l<q.sz∧j=i * q.sz+l∧(u i)[l]?=some v:=by
   intro j v hj
   have mT:=(List.getElem?_eq_some_iff.1 hj).1
   rw[kj]at mT
   have hl:j % q.sz<q.sz:=Nat.mod_lt _ jK
   have hi:j / q.sz<k:=(Nat.div_lt_iff_lt_mul jK).2 mT
   have e:j=j / q.sz * q.sz+j % q.sz:=by rw[Nat.mul_comm];exact(Nat.div_add_mod j q.sz).symm
   refine ⟨j / q.sz,j % q.sz,hi,hl,e,?_⟩
   rw[e,qM _ (z:=q.sz) (fun c hc=>by
    obtain ⟨i,hi,rfl⟩:=List.mem_map.1 hc
    exact pS i (by simpa using hi)) _ _ hl]at hj
   simpa[hi] using hj
  have bS:=aP.1
  have av1:k * q.sz≤n * q.sz:=Nat.mul_le_mul_right _ Cl
  rcases aP.2 with ⟨hv,yo⟩|⟨g',sn,iO,cur,hv,dj,kq,iX,rP,kC,gR⟩
  ·omega
  have Ug:n * q.sz≤iO * q.sz:=Nat.mul_le_mul_right _ iX
  have bX:=yH (T2:=T2) (w:=w) (ty:=o.type) (c:=iO) (c':=cap) (ad:=⟨b,off,none⟩) (off:=sn) hu dx oc kq kj
   (fun j v hj=>by
    obtain ⟨i,l,hi,hl,rfl,hv⟩:=pd j v hj
    rw[addr_add,← Nat.add_assoc]
    exact hs.aJ.gU _ _ _ (bQ i l v (by omega) hv))
   (fun v hv=>by
    obtain ⟨j,hj⟩:=List.getElem?_of_mem hv
    obtain ⟨i,l,hi,hl,rfl,hv⟩:=pd j v hj
    exact aD.lg (zX i (by omega)) (oa i (by omega)) v (List.mem_of_getElem? hv))
   (by rw[kj];omega)
  obtain ⟨news,ld⟩:∃ news,((List.range k).map u).flatten=news:=⟨_,rfl⟩
  have ajY:=xw u k pS
  rw[ld]at bX kj ajY
  refine tA _ (news++xs.drop (k * q.sz)) (by rw[gk,fG,hv];exact bX) (by rw[aF,hv];exact jy _ _ _) ?_ (fun i hi=>?_) (fun i hi=>?_) (fun i hi=>?_)
  ·refine ⟨by simp[kj];omega,.inr ⟨g',sn,iO,_,hv,dj,setRow_heap w g' cur _ _ (0,0) kq,iX,rP,?_,?_⟩⟩
   ·simp[kj];omega
   ·have:=sS (cur:=cur.toList) (ds:=news) (off:=sn) (p:=0) (N:=n * q.sz) (by rw[kj];omega) (by simp;omega)
    simp only[Nat.add_zero,Nat.zero_add,List.take_zero,List.nil_append]at this
    rw[this,gR,kj]
  ·by_cases MM:i<k
   ·rw[h1 i MM];exact Fb i (by omega)
   ·rw[h2 i (by omega) hi];exact gT i hi
  ·by_cases MM:i<k
   ·rw[h1 i MM];exact oa i (by omega)
   ·rw[h2 i (by omega) hi];exact mS i hi
  ·by_cases MM:i<k
   ·rw[h1 i MM,gJ kj MM,ajY i MM];exact zX i (by omega)
   ·rw[h2 i (by omega) hi]
    obtain ⟨j,rfl⟩:∃ j,i=k+j:=⟨i - k,by omega⟩
    rw[iN kj,List.drop_drop,← Nat.add_mul]
    exact eI _ hi
end
end Go.Ab
namespace Go.Ab
open Go Go.RowKit
set_option linter.all false
structure DX (Z:Seat) (f:FuncId) (l l' A:List D) (R:D) (E z n:Nat) (el:Nat→List D):Prop where
 j6:ab A
 sP:ab l
 om:ab l'
 xf:aY l'=true
 FL:PO R
 sO:∀ i,i<n→ab (el i)
 body:gD Z.P f
 calls:∀ (w:World) (κ:Nat→Nat→Option Value) (args:List Value) (b:Nat) (T:TypeId) (cs:List Value),Fits κ w→(∀ o,κ b o=none)→w.heap[b]?=some (.cells (List.toArray cs) T (0,0))→aD κ gO eV l cs→iA Z κ w→aD κ gO eV A args →
  Calls Z.P f (Value.pointer (some ⟨b,0,none⟩)::args).toArray w fun e w'=>∃ v sl aA sC T',e=.returned v∧w'.heap[b]?=some (.cells (List.toArray sC) T' (0,0))∧aD aA gO eV l' sC ∧
   aW aA (fun _=>1) (fun _=>sl) (kd 0 1 R) v∧(∀ b o u,κ b o=some u→aA b o=some u)∧(∀ b o u,b<w.heap.size→aA b o=some u→κ b o=some u) ∧
   (∀ b o u,aA b o=some u→w'.cell? ⟨b,o,none⟩=some u)∧fB w.heap.size aA (fun _=>1) (fun _=>sl) w' 0 (.arr E z n el)∧(∀ b,aL (.arr E z n el) sl=some b→∀ o,aA b o=none)∧Frame (some b) w w'
section
variable {X:Ctx}{Q:Exit→St→Prop}{S:St}{ops:Array Oper}{o:Oper}{rest:List Oper}
theorem V9 (p:Nat) {f:FuncId}{x0:Operand}{xs:List Operand}{ts:Array TypeId}{l l' A:List D}{R:D}{E z n:Nat}{el:Nat→List D}{s g:Nat} (yp:p≠s) (hg:o.guard=none) (ho:o.op=.call { callee:=.value (.func f),args:=(x0::xs).toArray,argTypes:=ts }) (hx:S.ev X x0=.bx s g 0) (dk:S.γ s=g) (aF:S.σ s=.box l)
  (hc:DX X.Z f l l' A R E z n el) (hA:xs.map (S.ev X)=A) {t:Nat} (hd:o.dst=some t) {R':D} (hR:kd p (S.γ p+1) R=R')
  (hk:WL X ops rest Q ⟨aG S.ρ t R',aG S.γ p (S.γ p+1),aG (aG S.σ s (.box l')) p (.arr E z n el)⟩):WL X ops (o::rest) Q S:=fun κ sv a w hs=>by
 subst hR
 obtain ⟨b,T,cs,he,gy,hh,cq,oa⟩:=mF hs hx dk aF
 have ed:aL (S.σ s) (sv s)=some b:=by rw[aF,gy];rfl
 have hr:=ic hs xs
 rw[hA]at hr
 have bX:=nw (P:=X.Z.P) (a:=a) (w:=w) hc.body ho
 simp only[List.map_cons,he]at bX
 have xz:=hc.calls w κ (xs.map a.eval) b T cs (bk.fits hs.aJ) (fun o=>hs.aJ.sep s b o ed) hh (cq.pure (fun _ _ _ h=>h) hc.sP) (bk.jY hs.aJ) (hr.pure (fun _ _ _ h=>h) hc.j6)
 refine wpListIn_plain hg fun K hK=>lO bX xz ?_
 rintro e w' ⟨v,sl,aA,sC,T',rfl,tD,ir,hv,k1,k2,k3,aP,qS,eI⟩
 have cG:w.grownBy w' (some b):=⟨eI.os,eI.tape,eI.output,eI.size,fun k hk cx=>eI.block k hk cx⟩
 have hle:Le κ aA S.γ (aG S.γ p (S.γ p+1)) sv (aG sv p sl):=by
  obtain ⟨a,b,c⟩:=eY κ S.γ sv p sl
  exact⟨k1,b,c⟩
 have ee:∀ b',aL (.arr E z n el) sl=some b'→w.heap.size≤b'∧b'<w'.heap.size∧∀ o,aA b' o=none:=fun b' bP=>by
  obtain ⟨xs,e1,_⟩:=aP
  rcases e1.2 with ⟨hv,_⟩|⟨b'',off,cap,cur,hv,dj,hh,_⟩
  ·simp only at hv;rw[hv]at bP;cases bP
  ·simp only at hv
   rw[hv]at bP;simp only[aL,Option.some.injEq]at bP;subst bP
   exact⟨dj,(Array.getElem?_eq_some_iff.1 hh).1,qS b'' (by rw[hv];rfl)⟩
 have E3:∀ t,t≠s→∀ b',aL (S.σ t) (sv t)=some b'→w'.heap[b']?=w.heap[b']?:=fun t ht b' bz =>
  cG.block b' (cP (hs.aJ.own t) bz) (fun e=>ht (hs.aJ.inj t s b' bz (by rw[ed];exact e.symm)))
 have bP:∀ t b',aL (aG (aG S.σ s (.box l')) p (.arr E z n el) t) (aG sv p sl t)=some b'→(t=p∧aL (.arr E z n el) sl=some b')∨(t≠p∧aL (S.σ t) (sv t)=some b'):=by
  intro t b' bz
  by_cases e:t=p
  ·subst e;rw[aC,aC]at bz;exact .inl ⟨rfl,bz⟩
  ·rw[bh _ _ _ _ e,bh _ _ _ _ e]at bz
   refine .inr ⟨e,?_⟩
   by_cases e2:t=s
   ·subst e2;rw[aC,gy]at bz;rw[ed];exact bz
   ·rw[bh _ _ _ _ e2]at bz;exact bz
 have lf:∀ o,aA b o=none:=fun o=>by
  cases hk:aA b o with
  |none=>rfl
  |some u =>
   have h2:=k2 b o u (cP (hs.aJ.own s) ed) hk
   rw[hs.aJ.sep s b o ed]at h2;cases h2
 have hW:cE X aA (aG sv p sl) ⟨S.ρ,aG S.γ p (S.γ p+1),aG (aG S.σ s (.box l')) p (.arr E z n el)⟩ w':=by
  have h0:=hs.aJ
  obtain ⟨h1,h2,h3,h4,h5,_,h7,h8,h9,fT,iD,jz,jm,gK,kA⟩:=hs.aJ
  refine ⟨k3,fun t=>?_,fun t u b' ht hu=>?_,fun t b' o ht=>?_,fun t b' ht=>?_,pM h0 cG (fun b' e=>⟨s,by rw[ed];exact e⟩) (fun t b' ht=>?_),fun g l uI=>?_,fun b' o v cz hk=>k2 b' o v (Nat.lt_of_lt_of_le cz fT) hk |> h8 b' o v cz,fun b' bz=>?_,Nat.le_trans fT cG.size,iD.trans hle,fun b' o v hk hT=>?_,fun t b' ht hT=>?_,fun b' h=>Nat.lt_of_lt_of_le (gK b' h) cG.size,kA⟩
  ·by_cases e:t=p
   ·subst e
    simp only[aC]
    obtain ⟨xs,e1,e2,e3,e4⟩:=aP
    exact⟨xs,by rw[aC];exact kR e1 (Nat.le_trans (X.Gx _) fT),e2,e3,fun i hi=>(e4 i hi).pure (fun _ _ _ h=>h) (hc.sO i hi)⟩
   ·simp only[bh _ _ _ _ e]
    by_cases e2:t=s
    ·subst e2;simp only[aC]
     exact⟨b,T',sC,by rw[bh _ _ _ _ e];exact gy,tD,ir.pure (fun _ _ _ h=>h) hc.om,.pure hc.xf hc.om⟩
    ·simp only[bh _ _ _ _ e2]
     exact dZ hle (bh _ _ _ _ e) (E3 t e2) (h2 t)
  ·simp only at ht hu
   rcases bP t b' ht with ⟨rfl,a1⟩|⟨e1,a1⟩<;>rcases bP u b' hu with ⟨rfl,a2⟩|⟨e2,a2⟩
   ·rfl
   ·have:=cP (h2 u) a2;have:=(ee b' a1).1;omega
   ·have:=cP (h2 t) a1;have:=(ee b' a2).1;omega
   ·exact h3 t u b' a1 a2
  ·simp only at ht
   rcases bP t b' ht with ⟨rfl,a1⟩|⟨e1,a1⟩
   ·exact(ee b' a1).2.2 o
   ·cases hk:aA b' o with
    |none=>rfl
    |some v=>have yh:=k2 b' o v (cP (h2 t) a1) hk;rw[h4 t b' o a1]at yh;cases yh
  ·simp only at ht
   rcases bP t b' ht with ⟨rfl,a1⟩|⟨e1,a1⟩
   ·exact .inl (Nat.le_trans fT (ee b' a1).1)
   ·exact h5 t b' a1
  ·rcases bP t b' ht with ⟨rfl,a1⟩|⟨e1,a1⟩
   ·exact .inl (ee b' a1).1
   ·exact .inr ⟨t,a1⟩
  ·obtain ⟨Ce,u,hu,hk⟩:=h7 g l uI
   exact⟨Ce,u,hu.mono hle,fun j v hj=>k1 _ _ _ (hk j v hj)⟩
  ·obtain ⟨e1,e2⟩:=h9 b' bz
   by_cases e:0=p
   ·subst e;simp only[aC];exact⟨by omega,fun e=>by omega⟩
   ·simp only[bh _ _ _ _ e];exact⟨e1,e2⟩
  ·by_cases e:b'<w.heap.size
   ·exact jz b' o v (k2 b' o v e hk) hT
   ·have:=gK b' hT;omega
  ·simp only at ht
   rcases bP t b' ht with ⟨rfl,a1⟩|⟨e1,a1⟩
   ·have:=gK b' hT;have:=(ee b' a1).1;omega
   ·exact jm t b' a1 hT
 have fN:bk X aA (aG sv p sl) ⟨S.ρ,aG S.γ p (S.γ p+1),aG (aG S.σ s (.box l')) p (.arr E z n el)⟩ a w':=⟨hs.size,ib hs s (by rw[ed];exact cG),fun i hi=>(hs.slot i hi).mono hle,hW⟩
 refine ⟨v,rfl,?_⟩
 rw[hd]
 exact hK _ _ (hk aA _ _ w' (fN.put (some t) (BH (p:=0) (g:=1) (fun _ _ _ h=>h) rfl (aC _ _ _) (aC _ _ _) hc.FL hv)))
end
end Go.Ab
namespace Go.Ab
open Go Go.RowKit
set_option linter.all false
section
variable {X:Ctx}{o:Oper}{S:St}{x:Operand}
theorem aof {T E:TypeId}{r q:dM}{s g z n i j:Nat}{f:Nat→List D}{lo hi:Option Operand} (ho:o.op=.slice T x lo hi none) (hx:S.ev X x=.os s g) (hg:S.γ s=g) (aF:S.σ s=.arr E z n f)
  (zR:sd X S lo i 0) (zQ:sd X S hi j n) (yn:i≤j) (hjn:j≤n)
  (hr:nth X.Z.bL T=some r) (hk:Nat.beq r.k 3=true) (hq:nth X.Z.bL r.el=some q) (dF:Nat.beq q.k 9=false) (hz:q.sz=z) :
  dy X o S (.ow s g z i (j - i)):=fun κ sv a w hs=>by
 subst hz
 have fY:=X.Z.bG _ _ hr (by intro e;rw[e]at hk;cases hk)
 have dx:=X.Z.bG _ _ hq (by intro e;rw[e]at dF;cases dF)
 have hu:=dp fY hk
 have fq:=hs.aJ.own s
 rw[aF]at fq
 obtain ⟨xs,aP,_⟩:=fq
 have cH:=hs.ev x
 rw[hx]at cH
 have gk:a.eval x=sv s:=by
  generalize a.eval x=v at cH
  cases cH with
  |os _ _ _ _ hh _=>exact hh hg.symm
 have fin:∀ (ad:Option Addr) (cap:Nat),sv s=.slice ad n cap→n≤cap→(Value.slice (if cap=i then ad else ad.map (·.add (i * q.sz))) (j - i) (cap - i)).oneCell'=true →
   ∃ v,aW κ S.γ sv (.ow s g q.sz i (j - i)) v∧∀ w',Below w.heap.size w w'→(execOp a.eval o).run X.Z.P w'=.ok (.value v) w':=fun ad cap he iX XF=>by
  refine ⟨_,.ow s g q.sz i (j - i) _ (by omega) (fun _=>⟨ad,n,cap,he,rfl⟩) XF,fun w' _=>?_⟩
  have:=vJ (P:=X.Z.P) (w:=w') (a:=ad) (len:=n) (cap:=cap) hu dx (zR.v hs) (zQ.v hs) yn (by omega)
  simp only[execOp,ho,gk,he,Option.map_none]
  simp[this]
 rcases aP.2 with ⟨hv,hn⟩|⟨b,off,cap,cur,hv,_,_,iX,_⟩
 ·refine fin none 0 (by rw[hv,hn]) (by omega) ?_
  split<;>rfl
 ·refine fin _ cap hv iX ?_
  split<;>rfl
theorem akT {T E:TypeId}{r q:dM}{x y:Operand}{s g z n k c m t n':Nat}{f f':Nat→List D}{ts:Array TypeId} (ho:o.op=.call { callee:=.builtin .append,args:=#[x,y],argTypes:=ts }) (fW:ts=#[T,T]) (hd:o.dst=some t)
  (hx:S.ev X x=.ow s g z 0 k) (hy:S.ev X y=.ow s g z c m) (hg:S.γ s=g) (aF:S.σ s=.arr E z n f) (Cl:k≤n) (QM:c+m≤n) (hkm:k+m≤n)
  (hr:nth X.Z.bL T=some r) (hk:Nat.beq r.k 3=true) (hE:r.el=E) (hq:nth X.Z.bL E=some q) (dF:Nat.beq q.k 9=false) (hz:q.sz=z) (nO:Nat.beq q.zs.length z=true) (iK:Nat.beq z 0=false)
  (hb:(k+m) * q.bytes≤140737488355328) (hm:k+m≤140737488355328) (od:n'=k+m) (h1:∀ i,i<k→f' i=f i) (h2:∀ i,i<m→f' (k+i)=f (c+i)) :
  kf X o S (S.owned t s (.arr E z n' f')):=fun κ sv a w hs=>by
 subst fW od
 have fY:=X.Z.bG _ _ hr (by intro e;rw[e]at hk;cases hk)
 have dx:=X.Z.bG _ _ hq (by intro e;rw[e]at dF;cases dF)
 obtain ⟨iq,dq,jA,uH,kB,pO,⟨zv,j0,oe⟩,_⟩:=du dx
 have hu:=dp fY hk
 rw[hE]at hu
 have fq:=hs.aJ.own s
 rw[aF]at fq
 obtain ⟨xs,aP,gT,mS,eI⟩:=fq
 have cH:=hs.ev x
 have eB:=hs.ev y
 rw[hx]at cH
 rw[hy]at eB
 have qv:zv.cells.size=z:=by have:=rY oe;have h2:=Nat.eq_of_beq_eq_true nO;simp at this;omega
 have jK:0<z:=by
  cases z with
  |zero=>cases iK
  |succ z=>omega
 have hle:∀ pv,Le κ κ S.γ (aG S.γ s (S.γ s+1)) sv (aG sv s pv):=eY κ S.γ sv s
 have bS:xs.length=n * z:=aP.1
 rw[hd]
 have gk:∃ ad N cap,sv s=.slice ad N cap∧a.eval x=.slice (if cap=0 then ad else ad.map (·.add (0 * z))) k (cap - 0):=by
  generalize a.eval x=v at cH
  cases cH with
  |ow _ _ _ _ _ _ _ hh _=>exact hh hg.symm
 have fG:∃ ad N cap,sv s=.slice ad N cap∧a.eval y=.slice (if cap=c then ad else ad.map (·.add (c * z))) m (cap - c):=by
  generalize a.eval y=v at eB
  cases eB with
  |ow _ _ _ _ _ _ _ hh _=>exact hh hg.symm
 obtain ⟨ad,N,cap,hv,gk⟩:=gk
 obtain ⟨ad2,N2,arA,Cq,fG⟩:=fG
 rw[hv]at Cq
 simp only[Value.slice.injEq]at Cq
 obtain ⟨rfl,rfl,rfl⟩:=Cq
 rcases aP.2 with ⟨QY,yo⟩|⟨b,off,iO,cur,kD,dj,hh,iX,rP,jZ,gR⟩
 ·rw[QY]at hv
  simp only[Value.slice.injEq]at hv
  obtain ⟨rfl,rfl,rfl⟩:=hv
  have Ck:k=0:=by omega
  have QQ:m=0:=by omega
  have hc0:c=0:=by omega
  subst Ck QQ hc0
  have aaU:a.eval x=.slice none 0 0:=by rw[gk];rfl
  have aaV:a.eval y=.slice none 0 0:=by rw[fG];rfl
  have bX:=l8 (P:=X.Z.P) (w:=w) (X.base s) T o.type E iq z hu jA (.slice none 0 0) 0 [] ⟨by simp,.inl ⟨rfl,rfl⟩⟩
  refine ⟨.slice none 0 0,w,κ,_,.inl ?_,fk hs t s (pv:=.slice none 0 0) rfl (cL (Below.refl _ _) _) (fun b hb=>by cases hb) ?_⟩
  ·simp[execOp,ho,resolve,invoke,builtin,aaU,aaV,bX]
  ·exact⟨[],by rw[aC];exact⟨by simp,.inl ⟨rfl,rfl⟩⟩,fun i hi=>by omega,fun i hi=>by omega,fun i hi=>by omega⟩
 ·rw[kD]at hv
  simp only[Value.slice.injEq]at hv
  obtain ⟨rfl,rfl,rfl⟩:=hv
  have hkz:k * z≤n * z:=Nat.mul_le_mul_right _ Cl
  have hcz:c * z+m * z≤n * z:=by rw[← Nat.add_mul];exact Nat.mul_le_mul_right _ QM
  have aaU:a.eval x=.slice (some ⟨b,off,none⟩) k iO:=by
   rw[gk]
   by_cases h0:iO=0
   ·rw[if_pos h0];simp
   ·rw[if_neg h0];simp[addr_add]
  have ann:eo w (X.base s) E z (.slice (some ⟨b,off,none⟩) k iO) k (xs.take (k * z)):=by
   refine ⟨by simp;omega,.inr ⟨b,off,iO,cur,rfl,dj,hh,by omega,rP,jZ,?_⟩⟩
   rw[← gR,List.take_take,Nat.min_eq_left hkz]
  have iW:∀ j u,xs[j]?=some u→w.cell? ⟨b,off+j,none⟩=some u:=fun j u hj=>by
   have:=(show eo w (X.base s) E z (.slice (some ⟨b,off,none⟩) n iO) n xs from ⟨aP.1,.inr ⟨b,off,iO,cur,rfl,dj,hh,iX,rP,jZ,gR⟩⟩).cells j u hj
   rwa [addr_add]at this
  obtain ⟨news,ld⟩:∃ l,(xs.drop (c * z)).take (m * z)=l:=⟨_,rfl⟩
  have kj:news.length=m * z:=by rw[← ld];simp;omega
  have hng:∀ j u,news[j]?=some u→xs[c * z+j]?=some u:=fun j u hj=>by
   have mT:=(List.getElem?_eq_some_iff.1 hj).1
   rw[← ld,List.getElem?_take,if_pos (by omega),List.getElem?_drop]at hj
   exact hj
  have MR:∀ (j:Nat) (u:Value),xs[j]?=some u→u.oneCell'=true:=fun j u hj=>by
   have mT:=(List.getElem?_eq_some_iff.1 hj).1
   have oc:j % z<z:=Nat.mod_lt _ jK
   have hi:j / z<n:=(Nat.div_lt_iff_lt_mul jK).2 (by omega)
   have e:j=j / z * z+j % z:=by rw[Nat.mul_comm];exact(Nat.div_add_mod j z).symm
   refine aD.lg (eI _ hi) (mS _ hi) u ?_
   refine List.mem_of_getElem? (i:=j % z) ?_
   rw[List.getElem?_take,if_pos oc,List.getElem?_drop,← e];exact hj
  have ajS:∀ i,i<m→(news.drop (i * z)).take z=(xs.drop ((c+i) * z)).take z:=fun i hi=>by
   have h1:i * z+z≤m * z:=by have:=Nat.mul_le_mul_right z (show i+1≤m by omega);rw[Nat.add_mul]at this;omega
   rw[← ld,List.drop_take,List.take_take,Nat.min_eq_left (by omega),List.drop_drop,Nat.add_mul]
  obtain ⟨ya,yc,aaV,akp⟩:∃ ya yc,a.eval y=.slice (some ya) m yc∧∀ j u,news[j]?=some u→w.cell? (ya.add j)=some u:=by
   by_cases h0:iO=c
   ·have QQ:m=0:=by omega
    refine ⟨⟨b,off,none⟩,iO - c,by rw[fG,if_pos h0],fun j u hj=>?_⟩
    have:=(List.getElem?_eq_some_iff.1 hj).1
    rw[kj,QQ]at this;omega
   ·refine ⟨⟨b,off+c * z,none⟩,iO - c,by rw[fG,if_neg h0];simp[addr_add],fun j u hj=>?_⟩
    rw[addr_add,Nat.add_assoc]
    exact iW _ _ (hng j u hj)
  obtain ⟨v',w',bX,eN,cG,tH⟩:=im (P:=X.Z.P) (w:=w) (X.base s) T o.type E iq zv z q.bytes hu jA j0 (by rw[kB,hz]) (by rw[pO]) qv jK (.slice (some ⟨b,off,none⟩) k iO) k (xs.take (k * z)) ann ya m yc news kj
   akp (fun v hv=>by
    obtain ⟨j,hj⟩:=List.getElem?_of_mem hv
    exact MR _ _ (hng j v hj)) (by unfold maxLen;omega) hb (hs.aJ.lT _)
  have zT:(Value.slice (some (⟨b,off,none⟩:Addr)) k iO).ownBlock=aL (S.σ s) (sv s):=by rw[aF,kD];rfl
  rw[zT]at cG
  have hxk:(xs.take (k * z)).length=k * z:=by simp;omega
  refine ⟨v',w',κ,_,.inl ?_,fk hs t s (pv:=v') ?_ cG (fun b' bz=>?_) ?_⟩
  ·simp[execOp,ho,resolve,invoke,builtin,aaU,aaV,bX]
  ·rcases eN.2 with ⟨e,_⟩|⟨_,_,_,_,e,_⟩<;>rw[e]<;>rfl
  ·rw[← zT]
   refine tH b' ?_
   rcases eN.2 with ⟨e,_⟩|⟨_,_,_,_,e,_⟩<;>(rw[e]at bz ⊢;exact bz)
  ·refine ⟨_,by rw[aC];exact eN,fun i hi=>?_,fun i hi=>?_,fun i hi=>?_⟩
   ·by_cases eJ:i<k
    ·rw[h1 i eJ];exact gT i (by omega)
    ·obtain ⟨p,rfl⟩:∃ p,i=k+p:=⟨i - k,by omega⟩
     rw[h2 p (by omega)];exact gT _ (by omega)
   ·by_cases eJ:i<k
    ·rw[h1 i eJ];exact mS i (by omega)
    ·obtain ⟨p,rfl⟩:∃ p,i=k+p:=⟨i - k,by omega⟩
     rw[h2 p (by omega)];exact mS _ (by omega)
   ·by_cases eJ:i<k
    ·rw[h1 i eJ,gJ hxk eJ]
     have QO:i * z+z≤k * z:=by have:=Nat.mul_le_mul_right z (show i+1≤k by omega);rw[Nat.add_mul]at this;omega
     rw[List.drop_take,List.take_take,Nat.min_eq_left (by omega)]
     exact(eI i (by omega)).mono (hle _)
    ·obtain ⟨p,rfl⟩:∃ p,i=k+p:=⟨i - k,by omega⟩
     rw[h2 p (by omega),iN hxk,ajS p (by omega)]
     exact(eI _ (by omega)).mono (hle _)
end
end Go.Ab
namespace Go.Ab
open Go Go.RowKit
set_option linter.all false
section
variable {X:Ctx}{S:St}{o:Oper}{T:TypeId}{r q:dM}
theorem Ra {x y:Operand}{s g s2 g2 z n m t n':Nat}{E E2:TypeId}{f h f':Nat→List D}{ts:Array TypeId} (ho:o.op=.call { callee:=.builtin .append,args:=#[x,y],argTypes:=ts }) (fW:ts=#[T,T]) (hd:o.dst=some t)
  (hx:(S.ev X x=.os s g∧S.γ s=g∧S.σ s=.arr E z n f)∨(S.ev X x=.nil∧n=0∧s=t)) (hy:S.ev X y=.os s2 g2) (Ci:S.γ s2=g2) (sk:S.σ s2=.arr E2 z m h)
  (hr:nth X.Z.bL T=some r) (hk:Nat.beq r.k 3=true) (hE:r.el=E) (hq:nth X.Z.bL E=some q) (dF:Nat.beq q.k 9=false) (hz:q.sz=z) (nO:Nat.beq q.zs.length z=true) (iK:Nat.beq z 0=false)
  (hb:(n+m) * q.bytes≤140737488355328) (hm:n+m≤140737488355328) (od:n'=n+m) (h1:∀ i,i<n→f' i=f i) (h2:∀ i,i<m→f' (n+i)=h i) :
  kf X o S (S.owned t s (.arr E z n' f')):=fun κ sv a w hs=>by
 subst fW od
 have fY:=X.Z.bG _ _ hr (by intro e;rw[e]at hk;cases hk)
 have dx:=X.Z.bG _ _ hq (by intro e;rw[e]at dF;cases dF)
 obtain ⟨iq,dq,jA,uH,kB,pO,⟨zv,j0,oe⟩,_⟩:=du dx
 have hu:=dp fY hk
 rw[hE]at hu
 -- RN first one
 obtain ⟨xv,xs,gk,aP,gT,mS,eI,pP⟩:∃ xv xs,a.eval x=xv∧eo w (X.base s) E z xv n xs∧(∀ i,i<n→(f i).length=z)∧(∀ i,i<n→aY (f i)=true)∧(∀ i,i<n→aD κ S.γ sv (f i) ((xs.drop (i * z)).take z))∧(xv=.slice none 0 0∨aL (S.σ s) (sv s)=xv.ownBlock):=by
  rcases hx with ⟨hx,hg,aF⟩|⟨hx,rfl,_⟩
  ·have fq:=hs.aJ.own s
   rw[aF]at fq
   obtain ⟨xs,aP,gT,mS,eI⟩:=fq
   have cH:=hs.ev x
   rw[hx]at cH
   refine ⟨sv s,xs,?_,aP,gT,mS,eI,.inr ?_⟩
   ·generalize a.eval x=v at cH
    cases cH with
    |os _ _ _ _ hh _=>exact hh hg.symm
   ·rw[aF]
    rcases aP.2 with ⟨e,_⟩|⟨_,_,_,_,e,_⟩<;>rw[e]<;>rfl
  ·have cH:=hs.ev x
   rw[hx]at cH
   refine ⟨.slice none 0 0,[],?_,qd _ _ _ _,fun i hi=>by omega,fun i hi=>by omega,fun i hi=>by omega,.inl rfl⟩
   generalize a.eval x=v at cH
   cases cH;rfl
 -- RN second one
 have adv:=hs.aJ.own s2
 rw[sk]at adv
 obtain ⟨ys,JT,X1,hyc,hyr⟩:=adv
 have eB:=hs.ev y
 rw[hy]at eB
 have fG:a.eval y=sv s2:=by
  generalize a.eval y=v at eB
  cases eB with
  |os _ _ _ _ hh _=>exact hh Ci.symm
 have qv:zv.cells.size=z:=by have:=rY oe;have h2:=Nat.eq_of_beq_eq_true nO;simp at this;omega
 have jK:0<z:=by
  cases z with
  |zero=>cases iK
  |succ z=>omega
 have hle:∀ pv,Le κ κ S.γ (aG S.γ s (S.γ s+1)) sv (aG sv s pv):=eY κ S.γ sv s
 have bS:xs.length=n * z:=aP.1
 have MX:ys.length=m * z:=JT.1
 have tG:∀ b,xv.ownBlock=some b→aL (S.σ s) (sv s)=some b:=fun b hb=>by
  rcases pP with e|e
  ·rw[e]at hb;cases hb
  ·rw[e];exact hb
 have ank:∀ {w':World},w.grownBy w' xv.ownBlock→w.grownBy w' (aL (S.σ s) (sv s)):=fun {w'} cG=>by
  rcases pP with e|e
  ·rw[e]at cG
   exact⟨cG.os,cG.tape,cG.output,cG.size,fun k hk _=>cG.block k hk (by simp[Value.ownBlock])⟩
  ·rw[e];exact cG
 rw[hd]
 have fin:∀ (v':Value) (w':World),(Builtin.append_ #[T,T] o.type #[xv,sv s2]).run X.Z.P w=.ok v' w'→eo w' (X.base s) E z v' (n+m) (xs++ys)→w.grownBy w' xv.ownBlock→(∀ b',v'.ownBlock=some b'→w.heap.size≤b'∨xv.ownBlock=some b') →
   ∃ v w' aA aQ,((execOp a.eval o).run X.Z.P w=.ok (.value v) w'∨((execOp a.eval o).run X.Z.P w=.ok .skip w'∧v=Go.undef))∧bk X aA aQ (S.owned t s (.arr E z (n+m) f')) (a.put (some t) v) w':=fun v' w' bX eN cG tH=>by
  refine ⟨v',w',κ,_,.inl ?_,fk hs t s (pv:=v') ?_ (ank cG) (fun b' bz=>?_) ?_⟩
  ·simp[execOp,ho,resolve,invoke,builtin,gk,fG,bX]
  ·rcases eN.2 with ⟨e,_⟩|⟨_,_,_,_,e,_⟩<;>rw[e]<;>rfl
  ·have ki:v'.ownBlock=some b':=by
    rcases eN.2 with ⟨e,_⟩|⟨_,_,_,_,e,_⟩<;>(rw[e]at bz ⊢;exact bz)
   rcases tH b' ki with h|h
   ·exact .inl h
   ·exact .inr (tG b' h)
  ·refine ⟨_,by rw[aC];exact eN,fun i hi=>?_,fun i hi=>?_,fun i hi=>?_⟩
   ·by_cases eJ:i<n
    ·rw[h1 i eJ];exact gT i eJ
    ·obtain ⟨k,rfl⟩:∃ k,i=n+k:=⟨i - n,by omega⟩
     rw[h2 k (by omega)];exact X1 k (by omega)
   ·by_cases eJ:i<n
    ·rw[h1 i eJ];exact mS i eJ
    ·obtain ⟨k,rfl⟩:∃ k,i=n+k:=⟨i - n,by omega⟩
     rw[h2 k (by omega)];exact hyc k (by omega)
   ·by_cases eJ:i<n
    ·rw[h1 i eJ,gJ bS eJ];exact(eI i eJ).mono (hle _)
    ·obtain ⟨k,rfl⟩:∃ k,i=n+k:=⟨i - n,by omega⟩
     rw[h2 k (by omega),iN bS]
     exact(hyr k (by omega)).mono (hle _)
 rcases JT.2 with ⟨ev,rfl⟩|⟨g3,off,cap,cur,ev,q1,q2,q3,q4,q5,q6⟩
 ·have hy0:ys=[]:=List.eq_nil_of_length_eq_zero (by simpa using MX)
  subst hy0
  have bX:=l8 (P:=X.Z.P) (w:=w) (X.base s) T o.type E iq z hu jA xv n xs aP
  rw[← ev]at bX
  exact fin xv w bX (by simpa using aP) (cL (Below.refl _ _) _) (fun b hb=>.inr hb)
 ·rw[ev]at JT
  obtain ⟨v',w',bX,eN,cG,tH⟩:=im (P:=X.Z.P) (w:=w) (X.base s) T o.type E iq zv z q.bytes hu jA j0 (by rw[kB,hz]) (by rw[pO]) qv jK xv n xs aP ⟨g3,off,none⟩ m cap ys MX
   (fun j v hj=>JT.cells j v hj)
   (fun v hv=>by
    obtain ⟨j,hj⟩:=List.getElem?_of_mem hv
    have mT:=(List.getElem?_eq_some_iff.1 hj).1
    rw[MX]at mT
    have hk:j % z<z:=Nat.mod_lt _ jK
    have hi:j / z<m:=(Nat.div_lt_iff_lt_mul jK).2 mT
    have e:j=j / z * z+j % z:=by rw[Nat.mul_comm];exact(Nat.div_add_mod j z).symm
    refine aD.lg (hyr _ hi) (hyc _ hi) v ?_
    refine List.mem_of_getElem? (i:=j % z) ?_
    rw[List.getElem?_take,if_pos hk,List.getElem?_drop,← e]
    exact hj)
   (by unfold maxLen;omega) hb (hs.aJ.lT _)
  rw[← ev]at bX
  exact fin v' w' bX eN cG tH
def acL (κ:Nat→Nat→Option Value) (w:World) (R:D) (E z n:Nat) (el:Nat→List D) (e:Ending) (w':World):Prop:=∃ v sl aA,e=.returned v∧aW aA (fun _=>1) (fun _=>sl) (kd 0 1 R) v∧(∀ b o u,κ b o=some u→aA b o=some u)∧(∀ b o u,b<w.heap.size→aA b o=some u→κ b o=some u) ∧
 (∀ b o u,aA b o=some u→w'.cell? ⟨b,o,none⟩=some u)∧sl.oneCell'=true∧fB w.heap.size aA (fun _=>1) (fun _=>sl) w' 0 (.arr E z n el)∧(∀ b,aL (.arr E z n el) sl=some b→∀ o,aA b o=none)∧Below w.heap.size w w'
theorem Zl {κ aA:Nat→Nat→Option Value}{γ cU:Nat→Nat}{sv aQ:Nat→Value}{d:D}{v v0:Value} (h:ma d=some v0) (hr:aW κ γ sv d v):aW aA cU aQ d v:=by
 cases d<;>simp[ma]at h
 ·cases hr;exact .int _ _
 ·cases hr;exact .bool _
 ·cases hr;exact .str _
theorem abN {base:Nat}{κ:Nat→Nat→Option Value}{γ:Nat→Nat}{sv:Nat→Value}{w:World}{s:Nat}{E z m:Nat}{f:Nat→List D} (h:fB base κ γ sv w s (.arr E z m f)):∀ b,aL (.arr E z m f) (sv s)=some b→base≤b:=fun b hb=>by
 obtain ⟨xs,e1,_⟩:=h
 rcases e1.2 with ⟨hv,_⟩|⟨g,off,cap,cur,hv,dj,_⟩
 ·rw[hv]at hb;cases hb
 ·rw[hv]at hb;simp only[aL,Option.some.injEq]at hb;subst hb;exact dj
end
end Go.Ab
namespace Go.Ab
open Go Go.RowKit
set_option linter.all false
theorem ap7 {X:Ctx}{S:St}{t p q g E z n:Nat}{f:Nat→List D} (cx:p≠q) (X3:S.ρ t=.os p g) (hg:S.γ p=g) (aF:S.σ p=.arr E z n f) (hp:X.xa p=false) (hq:X.xa q=false) :
  Wk X S ⟨aG S.ρ t (.os q (S.γ q+1)),aG S.γ q (S.γ q+1),aG (aG S.σ q (.arr E z n f)) p .none⟩:=fun κ sv a w hs=>by
 have hle:Le κ κ S.γ (aG S.γ q (S.γ q+1)) sv (aG sv q (sv p)):=by
  refine ⟨fun _ _ _ h=>h,fun s=>?_,fun s h=>?_⟩
  ·by_cases e:s=q
   ·subst e;rw[aC];omega
   ·rw[bh _ _ _ _ e];exact Nat.le_refl _
  ·by_cases e:s=q
   ·subst e;rw[aC]at h;omega
   ·rw[bh _ _ _ _ e]
 have hb:X.base q=X.base p:=by unfold Ctx.base;rw[hp,hq]
 have key:∀ s b,aL ((aG (aG S.σ q (.arr E z n f)) p .none) s) ((aG sv q (sv p)) s)=some b→∃ s0,aL (S.σ s0) (sv s0)=some b∧(s=q∧s0=p∨s≠q∧s≠p∧s0=s):=fun s b h=>by
  by_cases e:s=p
  ·subst e;rw[aC]at h;cases h
  ·rw[bh _ _ _ _ e]at h
   by_cases e2:s=q
   ·subst e2;rw[aC,aC]at h
    exact⟨p,by rw[aF];exact h,.inl ⟨rfl,rfl⟩⟩
   ·rw[bh _ _ _ _ e2,bh _ _ _ _ e2]at h
    exact⟨s,h,.inr ⟨e2,e,rfl⟩⟩
 refine ⟨κ,aG sv q (sv p),hs.size,hs.defers,fun j hj=>?_,?_⟩
 ·by_cases e:j=t
  ·subst e
   have:=hs.slot j hj
   rw[X3]at this
   show aW _ _ _ (aG S.ρ j (.os q (S.γ q+1)) j) _
   rw[aC]
   cases this with
   |os _ _ _ a b c=>exact .os _ _ _ (Nat.le_of_eq (aC _ _ _).symm) (fun _=>by rw[aC];exact b hg.symm) c
  ·show aW _ _ _ (aG S.ρ t (.os q (S.γ q+1)) j) _
   rw[bh _ _ _ _ e]
   exact(hs.slot j hj).mono hle
 ·obtain ⟨h1,h2,h3,h4,h5,h6,h7,h8,h9,fT,iD,jz,jm,gK,kA⟩:=hs.aJ
  refine ⟨h1,fun s=>?_,fun s t b MT ht1=>?_,fun s b o h=>?_,fun s b h=>?_,?_,fun g l hl=>?_,h8,fun b EZ=>?_,fT,iD.trans hle,jz,fun s b h=>?_,gK,kA⟩
  ·show fB _ _ _ _ _ _ (aG (aG S.σ q (.arr E z n f)) p .none s)
   by_cases e:s=p
   ·subst e;rw[aC];trivial
   ·rw[bh _ _ _ _ e]
    by_cases e2:s=q
    ·subst e2
     rw[aC,hb]
     have:=h2 p
     rw[aF]at this
     obtain ⟨xs,o1,o2,o3,o4⟩:=this
     exact⟨xs,by rw[aC];exact o1,o2,o3,fun i hi=>(o4 i hi).mono hle⟩
    ·rw[bh _ _ _ _ e2]
     have:=h2 s
     cases ho:S.σ s with
     |none=>trivial
     |box l =>
      rw[ho]at this
      obtain ⟨b,T,cs,o1,o2,o3,o4⟩:=this
      exact⟨b,T,cs,by rw[bh _ _ _ _ e2];exact o1,o2,o3.mono hle,o4⟩
     |arr E2 z2 n2 f2 =>
      rw[ho]at this
      obtain ⟨xs,o1,o2,o3,o4⟩:=this
      exact⟨xs,by rw[bh _ _ _ _ e2];exact o1,o2,o3,fun i hi=>(o4 i hi).mono hle⟩
     |mp l =>
      rw[ho]at this
      obtain ⟨b,es,c,o1,o2,o3⟩:=this
      exact⟨b,es,c,by rw[bh _ _ _ _ e2];exact o1,o2,o3⟩
     |si t p =>
      rw[ho]at this
      obtain ⟨b,o1,o2⟩:=this
      exact⟨b,by rw[bh _ _ _ _ e2];exact o1,o2⟩
  ·obtain ⟨s0,k1,k2⟩:=key s b MT
   obtain ⟨t0,k3,k4⟩:=key t b ht1
   have e:=h3 s0 t0 b k1 k3
   omega
  ·obtain ⟨s0,k1,_⟩:=key s b h;exact h4 s0 b o k1
  ·obtain ⟨s0,k1,_⟩:=key s b h;exact h5 s0 b k1
  ·obtain ⟨M,m1,m2⟩:=h6
   exact⟨M,m1,fun s b h=>by obtain ⟨s0,k1,_⟩:=key s b h;exact m2 s0 b k1⟩
  ·obtain ⟨u1,u,u2,u3⟩:=h7 g l hl
   exact⟨u1,u,u2.mono hle,u3⟩
  ·obtain ⟨p1,p2⟩:=h9 b EZ
   by_cases e:0=q
   ·subst e;show 1≤aG S.γ 0 (S.γ 0+1) 0∧(aG S.γ 0 (S.γ 0+1) 0=1→_)
    rw[aC];exact⟨by omega,fun h=>by omega⟩
   ·show 1≤aG S.γ q (S.γ q+1) 0∧(aG S.γ q (S.γ q+1) 0=1→aG sv q (sv p) 0=_)
    rw[bh _ _ _ _ e,bh _ _ _ _ e];exact⟨p1,p2⟩
  ·obtain ⟨s0,k1,_⟩:=key s b h;exact jm s0 b k1
end Go.Ab
namespace Go.Ab
open Go Go.RowKit
set_option linter.all false
structure Span where
 Lo:Int
 Hi:Int
 deriving DecidableEq
def cf:Span:=⟨0,0⟩
instance:Inhabited Span:=⟨cf⟩
structure iH where
 a:Int
 b:Int
 c:Int
 deriving DecidableEq
def zj:iH:=⟨0,0,0⟩
instance:Inhabited iH:=⟨zj⟩
structure dt where
 s8:Int
 uv:Int
 yR:Int
 Grow:Int
 uo:Int
 deriving DecidableEq
def b6:dt:=⟨0,0,0,0,0⟩
instance:Inhabited dt:=⟨b6⟩
structure aI where
 Reaches:List dt
 eW:iH
 deriving DecidableEq
def sI:aI:=⟨[],zj⟩
instance:Inhabited aI:=⟨sI⟩
structure jN where
 Kind:Int
 At:Int
 Hour:Int
 Value:Span
 deriving DecidableEq
def Lw:jN:=⟨0,0,0,cf⟩
instance:Inhabited jN:=⟨Lw⟩
structure Closure where
 bu:Int
 To:Int
 Reason:Int
 deriving DecidableEq
def B3:Closure:=⟨0,0,0⟩
instance:Inhabited Closure:=⟨B3⟩
structure bq where
 bu:Int
 Part:Int
 deriving DecidableEq
def aM:bq:=⟨0,0⟩
instance:Inhabited bq:=⟨aM⟩
structure aN where
 fm:Span
 fS:List bq
 iv:List bq
 vi:Int
 Edge:Int
 jS:Int
 pA:Int
 kZ:Int
 kl:Int
 ko:Int
 deriving DecidableEq
def uz:aN:=⟨cf,[],[],0,0,0,0,0,0,0⟩
instance:Inhabited aN:=⟨uz⟩
structure aU where
 Name:ByteArray
 Kind:Int
 Open:Span
 dK:Span
 deriving DecidableEq
def ay:aU:=⟨⟨#[]⟩,0,cf,cf⟩
instance:Inhabited aU:=⟨ay⟩
structure fF where
 bu:Int
 To:Int
 fo:Span
 deriving DecidableEq
def cC:fF:=⟨0,0,cf⟩
instance:Inhabited fF:=⟨cC⟩
structure aH where
 ah:List aU
 aZ:List fF
 deriving DecidableEq
def ti:aH:=⟨[],[]⟩
instance:Inhabited aH:=⟨ti⟩
structure Path where
 A:Int
 B:Int
 Time:Span
 Open:Int
 deriving DecidableEq
def ia:Path:=⟨0,0,cf,0⟩
instance:Inhabited Path:=⟨ia⟩
structure cY where
 Gs:Int
 uq:Span
 bu:Int
 To:Int
 jG:Int
 nX:List Span
 deriving DecidableEq
def ey:cY:=⟨0,cf,0,0,0,[]⟩
instance:Inhabited cY:=⟨ey⟩
structure cd where
 kv:Int
 bp:Span
 deriving DecidableEq
def aR:cd:=⟨0,cf⟩
instance:Inhabited cd:=⟨aR⟩
structure aw where
 eX:Int
 eF:List Path
 cT:List cY
 jb:List Span
 eR:List cd
 deriving DecidableEq
def sH:aw:=⟨0,[],[],[],[]⟩
instance:Inhabited aw:=⟨sH⟩
structure br where
 lS:Int
 Rest:Int
 Day:Int
 pB:Int
 deriving DecidableEq
def rL:br:=⟨0,0,0,0⟩
instance:Inhabited br:=⟨rL⟩
structure eh where
 bu:Span
 To:Span
 deriving DecidableEq
def cS:eh:=⟨cf,cf⟩
instance:Inhabited eh:=⟨cS⟩
structure Driver where
 Name:ByteArray
 lu:Int
 bO:List eh
 deriving DecidableEq
def cR:Driver:=⟨⟨#[]⟩,0,[]⟩
instance:Inhabited Driver:=⟨cR⟩
structure dT where
 Name:ByteArray
 lu:Int
 bO:List eh
 deriving DecidableEq
def rm:dT:=⟨⟨#[]⟩,0,[]⟩
instance:Inhabited dT:=⟨rm⟩
structure bb where
 Zero:Int
 Part:Int
 deriving DecidableEq
def uA:bb:=⟨0,0⟩
instance:Inhabited bb:=⟨uA⟩
structure bR where
 ju:Int
 Total:Int
 deriving DecidableEq
def uy:bR:=⟨0,0⟩
instance:Inhabited bR:=⟨uy⟩
structure Region where
 aI:aI
 aN:aN
 iV:Int
 fj:Int
 b9:Span
 aH:aH
 aw:aw
 br:br
 bD:List Driver
 bb:bb
 bR:bR
 deriving DecidableEq
def Eo:Region:=⟨sI,uz,0,0,cf,ti,sH,rL,[],uA,uy⟩
instance:Inhabited Region:=⟨Eo⟩
structure fJ where
 aI:aI
 aN:aN
 iV:Int
 fj:Int
 b9:Span
 aH:aH
 aw:aw
 br:br
 bD:List dT
 bb:bb
 bR:bR
 deriving DecidableEq
def B4:fJ:=⟨sI,uz,0,0,cf,ti,sH,rL,[],uA,uy⟩
instance:Inhabited fJ:=⟨B4⟩
structure ff where
 At:Int
 D3:Int
 deriving DecidableEq
def eH:ff:=⟨0,0⟩
instance:Inhabited ff:=⟨eH⟩
structure aS where
 Way:Int
 Start:Int
 b9:Span
 Holds:List ff
 deriving DecidableEq
def mK:aS:=⟨0,0,cf,[]⟩
instance:Inhabited aS:=⟨mK⟩
structure bI where
 Length:Int
 iV:Int
 fj:Int
 mB:List aS
 deriving DecidableEq
def Em:bI:=⟨0,0,0,[]⟩
instance:Inhabited bI:=⟨Em⟩
structure bU where
 Driver:Int
 Weight:Int
 aS:aS
 deriving DecidableEq
def B5:bU:=⟨0,0,mK⟩
instance:Inhabited bU:=⟨B5⟩
structure bF where
 Driver:dT
 rules:br
 deriving DecidableEq
def HZ:bF:=⟨rm,rL⟩
instance:Inhabited bF:=⟨HZ⟩
structure iB where
 aS:aS
 length:Int
 deriving DecidableEq
def C6:iB:=⟨mK,0⟩
instance:Inhabited iB:=⟨C6⟩
structure gq where
 fb:iB
 gone:List Span
 deriving DecidableEq
def uB:gq:=⟨C6,[]⟩
instance:Inhabited gq:=⟨uB⟩
structure iw where
 a:gq
 b:gq
 deriving DecidableEq
def HY:iw:=⟨uB,uB⟩
instance:Inhabited iw:=⟨HY⟩
structure pC where
 a:Span
 b:Span
 deriving DecidableEq
def P7:pC:=⟨cf,cf⟩
instance:Inhabited pC:=⟨P7⟩
structure ax where
 word:Int
 deriving DecidableEq
def Lx:ax:=⟨0⟩
instance:Inhabited ax:=⟨Lx⟩
structure iI where
 Open:List Int
 dK:List Int
 A9:List Int
 deriving DecidableEq
def zk:iI:=⟨[],[],[]⟩
instance:Inhabited iI:=⟨zk⟩
structure dv where
 has:Int
 least:Int
 pZ:Int
 ground:Bool
 rest:Bool
 deriving DecidableEq
def HX:dv:=⟨0,0,0,false,false⟩
instance:Inhabited dv:=⟨HX⟩
structure BT where
 b:aH
 t:iI
 deriving DecidableEq
def Wy:BT:=⟨ti,zk⟩
instance:Inhabited BT:=⟨Wy⟩
inductive T where
 |int (k:IntKind)|bool|str|sl (t:T)|ptr (t:T)|nK (f:FuncId) (t:T)|se (t:T)|zb (f:FuncId)|err|qI (f:FuncId) (t u:T)|vr (f:FuncId) (t u v:T)|rR (f:FuncId) (t:T)
 |Span|iH|dt|aI|jN|Closure|bq|aN|aU|fF|aH|Path|cY|cd|aw|br|eh|Driver|dT|bb|bR|Region|fJ|ff|aS|bI|bU|bF|iB|gq|iw|pC|ax|iI|dv|BT
 deriving DecidableEq
@[reducible] def den:T→Type
 |.int _=>Int
 |.bool=>Bool
 |.str=>ByteArray
 |.sl t=>List (den t)
 |.ptr t=>den t
 |.nK _ t=>den t
 |.se t=>Nat×den t
 |.zb _=>Unit
 |.err=>Bool
 |.qI _ t u=>den t×den u
 |.vr _ t u v=>den t×den u×den v
 |.rR _ t=>den t
 |.Span=>Span
 |.iH=>iH
 |.dt=>dt
 |.aI=>aI
 |.jN=>jN
 |.Closure=>Closure
 |.bq=>bq
 |.aN=>aN
 |.aU=>aU
 |.fF=>fF
 |.aH=>aH
 |.Path=>Path
 |.cY=>cY
 |.cd=>cd
 |.aw=>aw
 |.br=>br
 |.eh=>eh
 |.Driver=>Driver
 |.dT=>dT
 |.bb=>bb
 |.bR=>bR
 |.Region=>Region
 |.fJ=>fJ
 |.ff=>ff
 |.aS=>aS
 |.bI=>bI
 |.bU=>bU
 |.bF=>bF
 |.iB=>iB
 |.gq=>gq
 |.iw=>iw
 |.pC=>pC
 |.ax=>ax
 |.iI=>iI
 |.dv=>dv
 |.BT=>BT
def sz:T→Nat
 |.Span=>2
 |.iH=>3
 |.dt=>5
 |.aI=>4
 |.jN=>5
 |.Closure=>3
 |.bq=>2
 |.aN=>11
 |.aU=>6
 |.fF=>4
 |.aH=>2
 |.Path=>5
 |.cY=>7
 |.cd=>3
 |.aw=>5
 |.br=>4
 |.eh=>4
 |.Driver=>3
 |.dT=>3
 |.bb=>2
 |.bR=>2
 |.Region=>35
 |.fJ=>35
 |.ff=>2
 |.aS=>5
 |.bI=>4
 |.bU=>7
 |.bF=>7
 |.iB=>6
 |.gq=>7
 |.iw=>14
 |.pC=>4
 |.ax=>1
 |.iI=>3
 |.dv=>5
 |.BT=>5
 |_=>1
def bY:(t:T)→den t
 |.int _=>(0:Int)
 |.bool=>false
 |.str=>(⟨#[]⟩:ByteArray)
 |.sl t=>([]:List (den t))
 |.ptr t=>bY t
 |.nK _ t=>bY t
 |.se t=>(0,bY t)
 |.zb _=>()
 |.err=>false
 |.qI _ t u=>(bY t,bY u)
 |.vr _ t u v=>(bY t,bY u,bY v)
 |.rR _ t=>bY t
 |.Span=>cf
 |.iH=>zj
 |.dt=>b6
 |.aI=>sI
 |.jN=>Lw
 |.Closure=>B3
 |.bq=>aM
 |.aN=>uz
 |.aU=>ay
 |.fF=>cC
 |.aH=>ti
 |.Path=>ia
 |.cY=>ey
 |.cd=>aR
 |.aw=>sH
 |.br=>rL
 |.eh=>cS
 |.Driver=>cR
 |.dT=>rm
 |.bb=>uA
 |.bR=>uy
 |.Region=>Eo
 |.fJ=>B4
 |.ff=>eH
 |.aS=>mK
 |.bI=>Em
 |.bU=>B5
 |.bF=>HZ
 |.iB=>C6
 |.gq=>uB
 |.iw=>HY
 |.pC=>P7
 |.ax=>Lx
 |.iI=>zk
 |.dv=>HX
 |.BT=>Wy
inductive I where
 |int (k:IntKind) (n:Int)
 |bool (b:Bool)
 |str (s:ByteArray)
 |agg (l:List I)
 |bn (l:List I)
 |sl (t:T) (l:List (den t))
 |ft (t:T) (l:List (den t))
 |nil
 |rp (l:List I) (o:Nat)
 |bx (s g o:Nat)
 |mb (s g:Nat) (T:TypeId)
 |os (s g:Nat)
 |op (s g z i o:Nat)
 |ow (s g z a m:Nat)
 |fn (f:FuncId) (c:List I)
 |yl (l:Nat)
 |mf (f:FuncId) (c:List I)
 |one
 |lk (c:LK)
 |er (b:Bool)
 |undef
instance:Inhabited I:=⟨.undef⟩
def Nv (b:Bool):LK:=bif b then .ni else .nn
def tEr:List I→Option Bool
 |[.er b]=>some b
 |_=>none
theorem amc {r:List I}{x:Bool} (h:tEr r=some x):r=[.er x]:=by
 unfold tEr at h
 split at h
 ·simp only[Option.some.injEq]at h;rw[h]
 ·cases h
def tI (k:IntKind):List I→Option (Int×List I)
 |.int k' n::r=>if k'=k then some (n,r) else none
 |_=>none
def tB:List I→Option (Bool×List I)
 |.bool b::r=>some (b,r)
 |_=>none
def tS:List I→Option (ByteArray×List I)
 |.str b::r=>some (b,r)
 |_=>none
def kg (t t':T) (l:List (den t')):Option (List (den t)):=if h:t'=t then some (h ▸ l) else none
def tL (t:T):List I→Option (List (den t)×List I)
 |.sl t' l::r=>match kg t t' l with|some l=>some (l,r)|none=>none
 |.ft t' l::r=>match kg t t' l with|some l=>some (l,r)|none=>none
 |.nil::r=>some ([],r)
 |_=>none
def tE {α:Type}:List I→α→Option α
 |[],a=>some a
 |_,_=>none
mutual
def Aj:I→Bool
 |.nil=>false
 |.ft _ _=>false
 |.fn _ c=>fL c
 |.rp l _=>fL l
 |_=>true
def fL:List I→Bool
 |[]=>true
 |d::l=>Aj d&&fL l
end
def tP {α:Type} (dec:List I→Option α):List I→Option α
 |.rp l o::r=>(match r with|[]=>bif fL l&&Nat.beq o 0 then dec l else none|_=>none)
 |_=>none
def tC {α:Type} (f:FuncId) (dec:List I→Option α):List I→Option α
 |.fn g c::r=>(match r with|[]=>bif Nat.beq g f then tP dec c else none|_=>none)
 |_=>none
def tCv {α:Type} (dec:List I→Option α):List I→Option (Nat×α)
 |.fn g [.rp l 0]::r=>(match r with|[]=>(dec l).bind fun a=>some (g,a)|_=>none)
 |_=>none
def tCI (f:FuncId):List I→Option (Int×List I)
 |.fn g [.rp [.int k n] o]::r=>bif Nat.beq g f&&Nat.beq o 0 then (if k=.i64 then some (n,r) else none) else none
 |_=>none
def tC0 (f:FuncId):List I→Option Unit
 |.fn g c::r=>(match r with|[]=>bif Nat.beq g f then (match c with|[]=>some ()|_=>none) else none|_=>none)
 |_=>none
def tC2 {α β:Type} (f:FuncId) (da:List I→Option α) (db:List I→Option β):List I→Option (α×β)
 |.fn g c::r=>(match r with|[]=>bif Nat.beq g f then (match c with|x::ys=>(tP da [x]).bind fun a=>(tP db ys).bind fun b=>some (a,b)|_=>none) else none|_=>none)
 |_=>none
def tC3 {α β γ:Type} (f:FuncId) (da:List I→Option α) (db:List I→Option β) (dc:List I→Option γ):List I→Option (α×β×γ)
 |.fn g c::r=>(match r with|[]=>bif Nat.beq g f then (match c with|x::y::ys=>(tP da [x]).bind fun a=>(tP db [y]).bind fun b=>(tP dc ys).bind fun d=>some (a,b,d)|_=>none) else none|_=>none)
 |_=>none
def tM {α:Type} (f:FuncId) (dec:List I→Option α):List I→Option α
 |.mf g c::r=>(match r with|[]=>bif Nat.beq g f then (match c with|[.agg l]=>bif fL l then dec l else none|_=>none) else none|_=>none)
 |_=>none
@[reducible] def avX (t:T) (l:List (den t)):List I:=[.sl t l]
def Qi (x:Span):List I:=[.int .i64 x.Lo,.int .i64 x.Hi]
def GS (r:List I):Option Span:=(tI .i64 r).bind fun p0=>(tI .i64 p0.2).bind fun p1=>tE p1.2 ⟨p0.1,p1.1⟩
def LN (x:iH):List I:=[.int .i64 x.a,.int .i64 x.b,.int .i64 x.c]
def C0 (r:List I):Option iH:=(tI .i64 r).bind fun p0=>(tI .i64 p0.2).bind fun p1=>(tI .i64 p1.2).bind fun p2=>tE p2.2 ⟨p0.1,p1.1,p2.1⟩
def Qe (x:dt):List I:=[.int .i64 x.s8,.int .i64 x.uv,.int .i64 x.yR,.int .i64 x.Grow,.int .i64 x.uo]
def GO (r:List I):Option dt:=(tI .i64 r).bind fun p0=>(tI .i64 p0.2).bind fun p1=>(tI .i64 p1.2).bind fun p2=>(tI .i64 p2.2).bind fun p3=>(tI .i64 p3.2).bind fun p4=>tE p4.2 ⟨p0.1,p1.1,p2.1,p3.1,p4.1⟩
def Ib (x:aI):List I:=[.sl .dt x.Reaches,.int .i64 x.eW.a,.int .i64 x.eW.b,.int .i64 x.eW.c]
def zi (r:List I):Option aI:=(tL .dt r).bind fun p0=>(tI .i64 p0.2).bind fun p1=>(tI .i64 p1.2).bind fun p2=>(tI .i64 p2.2).bind fun p3=>tE p3.2 ⟨p0.1,⟨p1.1,p2.1,p3.1⟩⟩
def Qb (x:jN):List I:=[.int .i64 x.Kind,.int .i64 x.At,.int .i64 x.Hour,.int .i64 x.Value.Lo,.int .i64 x.Value.Hi]
def GK (r:List I):Option jN:=(tI .i64 r).bind fun p0=>(tI .i64 p0.2).bind fun p1=>(tI .i64 p1.2).bind fun p2=>(tI .i64 p2.2).bind fun p3=>(tI .i64 p3.2).bind fun p4=>tE p4.2 ⟨p0.1,p1.1,p2.1,⟨p3.1,p4.1⟩⟩
def Er (x:Closure):List I:=[.int .i64 x.bu,.int .i64 x.To,.int .i64 x.Reason]
def xi (r:List I):Option Closure:=(tI .i64 r).bind fun p0=>(tI .i64 p0.2).bind fun p1=>(tI .i64 p1.2).bind fun p2=>tE p2.2 ⟨p0.1,p1.1,p2.1⟩
def LL (x:bq):List I:=[.int .i64 x.bu,.int .i64 x.Part]
def CY (r:List I):Option bq:=(tI .i64 r).bind fun p0=>(tI .i64 p0.2).bind fun p1=>tE p1.2 ⟨p0.1,p1.1⟩
def LH (x:aN):List I:=[.int .i64 x.fm.Lo,.int .i64 x.fm.Hi,.sl .bq x.fS,.sl .bq x.iv,.int .i64 x.vi,.int .i64 x.Edge,.int .i64 x.jS,.int .i64 x.pA,.int .i64 x.kZ,.int .i64 x.kl,.int .i64 x.ko]
def CS (r:List I):Option aN:=(tI .i64 r).bind fun p0=>(tI .i64 p0.2).bind fun p1=>(tL .bq p1.2).bind fun p2=>(tL .bq p2.2).bind fun p3=>(tI .i64 p3.2).bind fun p4=>(tI .i64 p4.2).bind fun p5=>(tI .i64 p5.2).bind fun p6=>(tI .i64 p6.2).bind fun p7=>(tI .i64 p7.2).bind fun p8=>(tI .i64 p8.2).bind fun p9=>(tI .i64 p9.2).bind fun An=>tE An.2 ⟨⟨p0.1,p1.1⟩,p2.1,p3.1,p4.1,p5.1,p6.1,p7.1,p8.1,p9.1,An.1⟩
def Ep (x:aU):List I:=[.str x.Name,.int .i64 x.Kind,.int .i64 x.Open.Lo,.int .i64 x.Open.Hi,.int .i64 x.dK.Lo,.int .i64 x.dK.Hi]
def xh (r:List I):Option aU:=(tS r).bind fun p0=>(tI .i64 p0.2).bind fun p1=>(tI .i64 p1.2).bind fun p2=>(tI .i64 p2.2).bind fun p3=>(tI .i64 p3.2).bind fun p4=>(tI .i64 p4.2).bind fun p5=>tE p5.2 ⟨p0.1,p1.1,⟨p2.1,p3.1⟩,⟨p4.1,p5.1⟩⟩
def WH (x:fF):List I:=[.int .i64 x.bu,.int .i64 x.To,.int .i64 x.fo.Lo,.int .i64 x.fo.Hi]
def Ln (r:List I):Option fF:=(tI .i64 r).bind fun p0=>(tI .i64 p0.2).bind fun p1=>(tI .i64 p1.2).bind fun p2=>(tI .i64 p2.2).bind fun p3=>tE p3.2 ⟨p0.1,p1.1,⟨p2.1,p3.1⟩⟩
def P8 (x:aH):List I:=[.sl .aU x.ah,.sl .fF x.aZ]
def GG (r:List I):Option aH:=(tL .aU r).bind fun p0=>(tL .fF p0.2).bind fun p1=>tE p1.2 ⟨p0.1,p1.1⟩
def Qc (x:Path):List I:=[.int .i64 x.A,.int .i64 x.B,.int .i64 x.Time.Lo,.int .i64 x.Time.Hi,.int .i64 x.Open]
def GM (r:List I):Option Path:=(tI .i64 r).bind fun p0=>(tI .i64 p0.2).bind fun p1=>(tI .i64 p1.2).bind fun p2=>(tI .i64 p2.2).bind fun p3=>(tI .i64 p3.2).bind fun p4=>tE p4.2 ⟨p0.1,p1.1,⟨p2.1,p3.1⟩,p4.1⟩
def Qd (x:cY):List I:=[.int .i64 x.Gs,.int .i64 x.uq.Lo,.int .i64 x.uq.Hi,.int .i64 x.bu,.int .i64 x.To,.int .i64 x.jG,.sl .Span x.nX]
def GN (r:List I):Option cY:=(tI .i64 r).bind fun p0=>(tI .i64 p0.2).bind fun p1=>(tI .i64 p1.2).bind fun p2=>(tI .i64 p2.2).bind fun p3=>(tI .i64 p3.2).bind fun p4=>(tI .i64 p4.2).bind fun p5=>(tL .Span p5.2).bind fun p6=>tE p6.2 ⟨p0.1,⟨p1.1,p2.1⟩,p3.1,p4.1,p5.1,p6.1⟩
def LA (x:cd):List I:=[.int .i64 x.kv,.int .i64 x.bp.Lo,.int .i64 x.bp.Hi]
def CO (r:List I):Option cd:=(tI .i64 r).bind fun p0=>(tI .i64 p0.2).bind fun p1=>(tI .i64 p1.2).bind fun p2=>tE p2.2 ⟨p0.1,⟨p1.1,p2.1⟩⟩
def Ia (x:aw):List I:=[.int .i64 x.eX,.sl .Path x.eF,.sl .cY x.cT,.sl .Span x.jb,.sl .cd x.eR]
def zg (r:List I):Option aw:=(tI .i64 r).bind fun p0=>(tL .Path p0.2).bind fun p1=>(tL .cY p1.2).bind fun p2=>(tL .Span p2.2).bind fun p3=>(tL .cd p3.2).bind fun p4=>tE p4.2 ⟨p0.1,p1.1,p2.1,p3.1,p4.1⟩
def LI (x:br):List I:=[.int .i64 x.lS,.int .i64 x.Rest,.int .i64 x.Day,.int .i64 x.pB]
def CW (r:List I):Option br:=(tI .i64 r).bind fun p0=>(tI .i64 p0.2).bind fun p1=>(tI .i64 p1.2).bind fun p2=>(tI .i64 p2.2).bind fun p3=>tE p3.2 ⟨p0.1,p1.1,p2.1,p3.1⟩
def Qj (x:eh):List I:=[.int .i64 x.bu.Lo,.int .i64 x.bu.Hi,.int .i64 x.To.Lo,.int .i64 x.To.Hi]
def GU (r:List I):Option eh:=(tI .i64 r).bind fun p0=>(tI .i64 p0.2).bind fun p1=>(tI .i64 p1.2).bind fun p2=>(tI .i64 p2.2).bind fun p3=>tE p3.2 ⟨⟨p0.1,p1.1⟩,⟨p2.1,p3.1⟩⟩
def H8 (x:Driver):List I:=[.str x.Name,.int .i64 x.lu,.sl .eh x.bO]
def ze (r:List I):Option Driver:=(tS r).bind fun p0=>(tI .i64 p0.2).bind fun p1=>(tL .eh p1.2).bind fun p2=>tE p2.2 ⟨p0.1,p1.1,p2.1⟩
def nsI (t:T) (l:List (den t)):I:=match l with
 |[]=>.nil
 |a::m=>.sl t (a::m)
def tNs (t:T):List I→Option (List (den t)×List I)
 |.sl t' l::r=>match kg t t' l with
  |some (a::m)=>some (a::m,r)
  |_=>none
 |.nil::r=>some ([],r)
 |_=>none
def Ev (x:dT):List I:=[.str x.Name,.int .i64 x.lu,nsI .eh x.bO]
def xj (r:List I):Option dT:=(tS r).bind fun p0=>(tI .i64 p0.2).bind fun p1=>(tNs .eh p1.2).bind fun p2=>tE p2.2 ⟨p0.1,p1.1,p2.1⟩
def LJ (x:bb):List I:=[.int .i64 x.Zero,.int .i64 x.Part]
def CX (r:List I):Option bb:=(tI .i64 r).bind fun p0=>(tI .i64 p0.2).bind fun p1=>tE p1.2 ⟨p0.1,p1.1⟩
def Lz (x:bR):List I:=[.int .i64 x.ju,.int .i64 x.Total]
def CN (r:List I):Option bR:=(tI .i64 r).bind fun p0=>(tI .i64 p0.2).bind fun p1=>tE p1.2 ⟨p0.1,p1.1⟩
def H9 (x:Region):List I:=[.sl .dt x.aI.Reaches,.int .i64 x.aI.eW.a,.int .i64 x.aI.eW.b,.int .i64 x.aI.eW.c,.int .i64 x.aN.fm.Lo,.int .i64 x.aN.fm.Hi,.sl .bq x.aN.fS,.sl .bq x.aN.iv,.int .i64 x.aN.vi,.int .i64 x.aN.Edge,.int .i64 x.aN.jS,.int .i64 x.aN.pA,.int .i64 x.aN.kZ,.int .i64 x.aN.kl,.int .i64 x.aN.ko,.int .i64 x.iV,.int .i64 x.fj,.int .i64 x.b9.Lo,.int .i64 x.b9.Hi,.sl .aU x.aH.ah,.sl .fF x.aH.aZ,.int .i64 x.aw.eX,.sl .Path x.aw.eF,.sl .cY x.aw.cT,.sl .Span x.aw.jb,.sl .cd x.aw.eR,.int .i64 x.br.lS,.int .i64 x.br.Rest,.int .i64 x.br.Day,.int .i64 x.br.pB,.sl .Driver x.bD,.int .i64 x.bb.Zero,.int .i64 x.bb.Part,.int .i64 x.bR.ju,.int .i64 x.bR.Total]
def zf (r:List I):Option Region:=(tL .dt r).bind fun p0=>(tI .i64 p0.2).bind fun p1=>(tI .i64 p1.2).bind fun p2=>(tI .i64 p2.2).bind fun p3=>(tI .i64 p3.2).bind fun p4=>(tI .i64 p4.2).bind fun p5=>(tL .bq p5.2).bind fun p6=>(tL .bq p6.2).bind fun p7=>(tI .i64 p7.2).bind fun p8=>(tI .i64 p8.2).bind fun p9=>(tI .i64 p9.2).bind fun An=>(tI .i64 An.2).bind fun IG=>(tI .i64 IG.2).bind fun IH=>(tI .i64 IH.2).bind fun II=>(tI .i64 II.2).bind fun Yv=>(tI .i64 Yv.2).bind fun Yw=>(tI .i64 Yw.2).bind fun Yx=>(tI .i64 Yx.2).bind fun Yy=>(tI .i64 Yy.2).bind fun Yz=>(tL .aU Yz.2).bind fun YA=>(tL .fF YA.2).bind fun YB=>(tI .i64 YB.2).bind fun YC=>(tL .Path YC.2).bind fun YD=>(tL .cY YD.2).bind fun YE=>(tL .Span YE.2).bind fun YF=>(tL .cd YF.2).bind fun YG=>(tI .i64 YG.2).bind fun YH=>(tI .i64 YH.2).bind fun YI=>(tI .i64 YI.2).bind fun YJ=>(tI .i64 YJ.2).bind fun YK=>(tL .Driver YK.2).bind fun YM=>(tI .i64 YM.2).bind fun YN=>(tI .i64 YN.2).bind fun YO=>(tI .i64 YO.2).bind fun YP=>(tI .i64 YP.2).bind fun YQ=>tE YQ.2 ⟨⟨p0.1,⟨p1.1,p2.1,p3.1⟩⟩,⟨⟨p4.1,p5.1⟩,p6.1,p7.1,p8.1,p9.1,An.1,IG.1,IH.1,II.1,Yv.1⟩,Yw.1,Yx.1,⟨Yy.1,Yz.1⟩,⟨YA.1,YB.1⟩,⟨YC.1,YD.1,YE.1,YF.1,YG.1⟩,⟨YH.1,YI.1,YJ.1,YK.1⟩,YM.1,⟨YN.1,YO.1⟩,⟨YP.1,YQ.1⟩⟩
def Ex (x:fJ):List I:=[.sl .dt x.aI.Reaches,.int .i64 x.aI.eW.a,.int .i64 x.aI.eW.b,.int .i64 x.aI.eW.c,.int .i64 x.aN.fm.Lo,.int .i64 x.aN.fm.Hi,.sl .bq x.aN.fS,.sl .bq x.aN.iv,.int .i64 x.aN.vi,.int .i64 x.aN.Edge,.int .i64 x.aN.jS,.int .i64 x.aN.pA,.int .i64 x.aN.kZ,.int .i64 x.aN.kl,.int .i64 x.aN.ko,.int .i64 x.iV,.int .i64 x.fj,.int .i64 x.b9.Lo,.int .i64 x.b9.Hi,.sl .aU x.aH.ah,.sl .fF x.aH.aZ,.int .i64 x.aw.eX,.sl .Path x.aw.eF,.sl .cY x.aw.cT,.sl .Span x.aw.jb,.sl .cd x.aw.eR,.int .i64 x.br.lS,.int .i64 x.br.Rest,.int .i64 x.br.Day,.int .i64 x.br.pB,.sl .dT x.bD,.int .i64 x.bb.Zero,.int .i64 x.bb.Part,.int .i64 x.bR.ju,.int .i64 x.bR.Total]
def xk (r:List I):Option fJ:=(tL .dt r).bind fun p0=>(tI .i64 p0.2).bind fun p1=>(tI .i64 p1.2).bind fun p2=>(tI .i64 p2.2).bind fun p3=>(tI .i64 p3.2).bind fun p4=>(tI .i64 p4.2).bind fun p5=>(tL .bq p5.2).bind fun p6=>(tL .bq p6.2).bind fun p7=>(tI .i64 p7.2).bind fun p8=>(tI .i64 p8.2).bind fun p9=>(tI .i64 p9.2).bind fun An=>(tI .i64 An.2).bind fun IG=>(tI .i64 IG.2).bind fun IH=>(tI .i64 IH.2).bind fun II=>(tI .i64 II.2).bind fun Yv=>(tI .i64 Yv.2).bind fun Yw=>(tI .i64 Yw.2).bind fun Yx=>(tI .i64 Yx.2).bind fun Yy=>(tI .i64 Yy.2).bind fun Yz=>(tL .aU Yz.2).bind fun YA=>(tL .fF YA.2).bind fun YB=>(tI .i64 YB.2).bind fun YC=>(tL .Path YC.2).bind fun YD=>(tL .cY YD.2).bind fun YE=>(tL .Span YE.2).bind fun YF=>(tL .cd YF.2).bind fun YG=>(tI .i64 YG.2).bind fun YH=>(tI .i64 YH.2).bind fun YI=>(tI .i64 YI.2).bind fun YJ=>(tI .i64 YJ.2).bind fun YK=>(tL .dT YK.2).bind fun YM=>(tI .i64 YM.2).bind fun YN=>(tI .i64 YN.2).bind fun YO=>(tI .i64 YO.2).bind fun YP=>(tI .i64 YP.2).bind fun YQ=>tE YQ.2 ⟨⟨p0.1,⟨p1.1,p2.1,p3.1⟩⟩,⟨⟨p4.1,p5.1⟩,p6.1,p7.1,p8.1,p9.1,An.1,IG.1,IH.1,II.1,Yv.1⟩,Yw.1,Yx.1,⟨Yy.1,Yz.1⟩,⟨YA.1,YB.1⟩,⟨YC.1,YD.1,YE.1,YF.1,YG.1⟩,⟨YH.1,YI.1,YJ.1,YK.1⟩,YM.1,⟨YN.1,YO.1⟩,⟨YP.1,YQ.1⟩⟩
def Qa (x:ff):List I:=[.int .i64 x.At,.int .i64 x.D3]
def GJ (r:List I):Option ff:=(tI .i64 r).bind fun p0=>(tI .i64 p0.2).bind fun p1=>tE p1.2 ⟨p0.1,p1.1⟩
def LP (x:aS):List I:=[.int .i64 x.Way,.int .i64 x.Start,.int .i64 x.b9.Lo,.int .i64 x.b9.Hi,.sl .ff x.Holds]
def C2 (r:List I):Option aS:=(tI .i64 r).bind fun p0=>(tI .i64 p0.2).bind fun p1=>(tI .i64 p1.2).bind fun p2=>(tI .i64 p2.2).bind fun p3=>(tL .ff p3.2).bind fun p4=>tE p4.2 ⟨p0.1,p1.1,⟨p2.1,p3.1⟩,p4.1⟩
def H2 (x:bI):List I:=[.int .i64 x.Length,.int .i64 x.iV,.int .i64 x.fj,.sl .aS x.mB]
def zd (r:List I):Option bI:=(tI .i64 r).bind fun p0=>(tI .i64 p0.2).bind fun p1=>(tI .i64 p1.2).bind fun p2=>(tL .aS p2.2).bind fun p3=>tE p3.2 ⟨p0.1,p1.1,p2.1,p3.1⟩
def Ey (x:bU):List I:=[.int .i64 x.Driver,.int .i64 x.Weight,.int .i64 x.aS.Way,.int .i64 x.aS.Start,.int .i64 x.aS.b9.Lo,.int .i64 x.aS.b9.Hi,.sl .ff x.aS.Holds]
def xl (r:List I):Option bU:=(tI .i64 r).bind fun p0=>(tI .i64 p0.2).bind fun p1=>(tI .i64 p1.2).bind fun p2=>(tI .i64 p2.2).bind fun p3=>(tI .i64 p3.2).bind fun p4=>(tI .i64 p4.2).bind fun p5=>(tL .ff p5.2).bind fun p6=>tE p6.2 ⟨p0.1,p1.1,⟨p2.1,p3.1,⟨p4.1,p5.1⟩,p6.1⟩⟩
def LM (x:bF):List I:=[.str x.Driver.Name,.int .i64 x.Driver.lu,.sl .eh x.Driver.bO,.int .i64 x.rules.lS,.int .i64 x.rules.Rest,.int .i64 x.rules.Day,.int .i64 x.rules.pB]
def CZ (r:List I):Option bF:=(tS r).bind fun p0=>(tI .i64 p0.2).bind fun p1=>(tL .eh p1.2).bind fun p2=>(tI .i64 p2.2).bind fun p3=>(tI .i64 p3.2).bind fun p4=>(tI .i64 p4.2).bind fun p5=>(tI .i64 p5.2).bind fun p6=>tE p6.2 ⟨⟨p0.1,p1.1,p2.1⟩,⟨p3.1,p4.1,p5.1,p6.1⟩⟩
def Qf (x:iB):List I:=[.int .i64 x.aS.Way,.int .i64 x.aS.Start,.int .i64 x.aS.b9.Lo,.int .i64 x.aS.b9.Hi,.sl .ff x.aS.Holds,.int .i64 x.length]
def GP (r:List I):Option iB:=(tI .i64 r).bind fun p0=>(tI .i64 p0.2).bind fun p1=>(tI .i64 p1.2).bind fun p2=>(tI .i64 p2.2).bind fun p3=>(tL .ff p3.2).bind fun p4=>(tI .i64 p4.2).bind fun p5=>tE p5.2 ⟨⟨p0.1,p1.1,⟨p2.1,p3.1⟩,p4.1⟩,p5.1⟩
def LO (x:gq):List I:=[.int .i64 x.fb.aS.Way,.int .i64 x.fb.aS.Start,.int .i64 x.fb.aS.b9.Lo,.int .i64 x.fb.aS.b9.Hi,.sl .ff x.fb.aS.Holds,.int .i64 x.fb.length,.sl .Span x.gone]
def C1 (r:List I):Option gq:=(tI .i64 r).bind fun p0=>(tI .i64 p0.2).bind fun p1=>(tI .i64 p1.2).bind fun p2=>(tI .i64 p2.2).bind fun p3=>(tL .ff p3.2).bind fun p4=>(tI .i64 p4.2).bind fun p5=>(tL .Span p5.2).bind fun p6=>tE p6.2 ⟨⟨⟨p0.1,p1.1,⟨p2.1,p3.1⟩,p4.1⟩,p5.1⟩,p6.1⟩
def LG (x:iw):List I:=[.int .i64 x.a.fb.aS.Way,.int .i64 x.a.fb.aS.Start,.int .i64 x.a.fb.aS.b9.Lo,.int .i64 x.a.fb.aS.b9.Hi,.sl .ff x.a.fb.aS.Holds,.int .i64 x.a.fb.length,.sl .Span x.a.gone,.int .i64 x.b.fb.aS.Way,.int .i64 x.b.fb.aS.Start,.int .i64 x.b.fb.aS.b9.Lo,.int .i64 x.b.fb.aS.b9.Hi,.sl .ff x.b.fb.aS.Holds,.int .i64 x.b.fb.length,.sl .Span x.b.gone]
def CQ (r:List I):Option iw:=(tI .i64 r).bind fun p0=>(tI .i64 p0.2).bind fun p1=>(tI .i64 p1.2).bind fun p2=>(tI .i64 p2.2).bind fun p3=>(tL .ff p3.2).bind fun p4=>(tI .i64 p4.2).bind fun p5=>(tL .Span p5.2).bind fun p6=>(tI .i64 p6.2).bind fun p7=>(tI .i64 p7.2).bind fun p8=>(tI .i64 p8.2).bind fun p9=>(tI .i64 p9.2).bind fun An=>(tL .ff An.2).bind fun IG=>(tI .i64 IG.2).bind fun IH=>(tL .Span IH.2).bind fun II=>tE II.2 ⟨⟨⟨⟨p0.1,p1.1,⟨p2.1,p3.1⟩,p4.1⟩,p5.1⟩,p6.1⟩,⟨⟨⟨p7.1,p8.1,⟨p9.1,An.1⟩,IG.1⟩,IH.1⟩,II.1⟩⟩
def WK (x:pC):List I:=[.int .i64 x.a.Lo,.int .i64 x.a.Hi,.int .i64 x.b.Lo,.int .i64 x.b.Hi]
def Lv (r:List I):Option pC:=(tI .i64 r).bind fun p0=>(tI .i64 p0.2).bind fun p1=>(tI .i64 p1.2).bind fun p2=>(tI .i64 p2.2).bind fun p3=>tE p3.2 ⟨⟨p0.1,p1.1⟩,⟨p2.1,p3.1⟩⟩
def Qh (x:ax):List I:=[.int .u64 x.word]
def GR (r:List I):Option ax:=(tI .u64 r).bind fun p0=>tE p0.2 ⟨p0.1⟩
def LQ (x:iI):List I:=[.sl (.int .i64) x.Open,.sl (.int .i64) x.dK,.sl (.int .i64) x.A9]
def C3 (r:List I):Option iI:=(tL (.int .i64) r).bind fun p0=>(tL (.int .i64) p0.2).bind fun p1=>(tL (.int .i64) p1.2).bind fun p2=>tE p2.2 ⟨p0.1,p1.1,p2.1⟩
def LF (x:dv):List I:=[.fn 105 [.rp [.int .i64 x.has] 0],.int .i64 x.least,.int .i64 x.pZ,.bool x.ground,.bool x.rest]
def CP (r:List I):Option dv:=(tCI 105 r).bind fun p0=>(tI .i64 p0.2).bind fun p1=>(tI .i64 p1.2).bind fun p2=>(tB p2.2).bind fun p3=>(tB p3.2).bind fun p4=>tE p4.2 ⟨p0.1,p1.1,p2.1,p3.1,p4.1⟩
def ac0 (x:BT):List I:=[.sl .aU x.b.ah,.sl .fF x.b.aZ,.sl (.int .i64) x.t.Open,.sl (.int .i64) x.t.dK,.sl (.int .i64) x.t.A9]
def SC (r:List I):Option BT:=(tL .aU r).bind fun p0=>(tL .fF p0.2).bind fun p1=>(tL (.int .i64) p1.2).bind fun p2=>(tL (.int .i64) p2.2).bind fun p3=>(tL (.int .i64) p3.2).bind fun p4=>tE p4.2 ⟨⟨p0.1,p1.1⟩,⟨p2.1,p3.1,p4.1⟩⟩
def bj:(t:T)→den t→List I
 |.int k,x=>[.int k x]
 |.bool,x=>[.bool x]
 |.str,x=>[.str x]
 |.sl t,x=>[.sl t x]
 |.ptr t,x=>[.rp (bj t x) 0]
 |.nK f t,x=>[.fn f [.rp (bj t x) 0]]
 |.se t,x=>[.fn x.1 [.rp (bj t x.2) 0]]
 |.zb f,_=>[.fn f []]
 |.err,x=>[.er x]
 |.qI f t u,x=>[.fn f [.rp (bj t x.1) 0,.rp (bj u x.2) 0]]
 |.vr f t u v,x=>[.fn f [.rp (bj t x.1) 0,.rp (bj u x.2.1) 0,.rp (bj v x.2.2) 0]]
 |.rR f t,x=>[.mf f [.agg (bj t x)]]
 |.Span,x=>Qi x
 |.iH,x=>LN x
 |.dt,x=>Qe x
 |.aI,x=>Ib x
 |.jN,x=>Qb x
 |.Closure,x=>Er x
 |.bq,x=>LL x
 |.aN,x=>LH x
 |.aU,x=>Ep x
 |.fF,x=>WH x
 |.aH,x=>P8 x
 |.Path,x=>Qc x
 |.cY,x=>Qd x
 |.cd,x=>LA x
 |.aw,x=>Ia x
 |.br,x=>LI x
 |.eh,x=>Qj x
 |.Driver,x=>H8 x
 |.dT,x=>Ev x
 |.bb,x=>LJ x
 |.bR,x=>Lz x
 |.Region,x=>H9 x
 |.fJ,x=>Ex x
 |.ff,x=>Qa x
 |.aS,x=>LP x
 |.bI,x=>H2 x
 |.bU,x=>Ey x
 |.bF,x=>LM x
 |.iB,x=>Qf x
 |.gq,x=>LO x
 |.iw,x=>LG x
 |.pC,x=>WK x
 |.ax,x=>Qh x
 |.iI,x=>LQ x
 |.dv,x=>LF x
 |.BT,x=>ac0 x
def ew:(t:T)→List I→Option (den t)
 |.int k,r=>(tI k r).bind fun p=>tE p.2 p.1
 |.bool,r=>(tB r).bind fun p=>tE p.2 p.1
 |.str,r=>(tS r).bind fun p=>tE p.2 p.1
 |.sl t,r=>(tL t r).bind fun p=>tE p.2 p.1
 |.ptr t,r=>tP (ew t) r
 |.nK f t,r=>tC f (ew t) r
 |.se t,r=>tCv (ew t) r
 |.zb f,r=>tC0 f r
 |.err,r=>tEr r
 |.qI f t u,r=>tC2 f (ew t) (ew u) r
 |.vr f t u v,r=>tC3 f (ew t) (ew u) (ew v) r
 |.rR f t,r=>tM f (ew t) r
 |.Span,r=>GS r
 |.iH,r=>C0 r
 |.dt,r=>GO r
 |.aI,r=>zi r
 |.jN,r=>GK r
 |.Closure,r=>xi r
 |.bq,r=>CY r
 |.aN,r=>CS r
 |.aU,r=>xh r
 |.fF,r=>Ln r
 |.aH,r=>GG r
 |.Path,r=>GM r
 |.cY,r=>GN r
 |.cd,r=>CO r
 |.aw,r=>zg r
 |.br,r=>CW r
 |.eh,r=>GU r
 |.Driver,r=>ze r
 |.dT,r=>xj r
 |.bb,r=>CX r
 |.bR,r=>CN r
 |.Region,r=>zf r
 |.fJ,r=>xk r
 |.ff,r=>GJ r
 |.aS,r=>C2 r
 |.bI,r=>zd r
 |.bU,r=>xl r
 |.bF,r=>CZ r
 |.iB,r=>GP r
 |.gq,r=>C1 r
 |.iw,r=>CQ r
 |.pC,r=>Lv r
 |.ax,r=>GR r
 |.iI,r=>C3 r
 |.dv,r=>CP r
 |.BT,r=>SC r
def iP (x:Span):List D:=[.int .i64 x.Lo,.int .i64 x.Hi]
def zr (x:iH):List D:=[.int .i64 x.a,.int .i64 x.b,.int .i64 x.c]
def oD (x:dt):List D:=[.int .i64 x.s8,.int .i64 x.uv,.int .i64 x.yR,.int .i64 x.Grow,.int .i64 x.uo]
def xo (x:aI):List D:=[.sl 5 x.Reaches.length (fun i=>oD (x.Reaches.getD i b6)),.int .i64 x.eW.a,.int .i64 x.eW.b,.int .i64 x.eW.c]
def LB (x:jN):List D:=[.int .i64 x.Kind,.int .i64 x.At,.int .i64 x.Hour,.int .i64 x.Value.Lo,.int .i64 x.Value.Hi]
def B7 (x:Closure):List D:=[.int .i64 x.bu,.int .i64 x.To,.int .i64 x.Reason]
def iC (x:bq):List D:=[.int .i64 x.bu,.int .i64 x.Part]
def zo (x:aN):List D:=[.int .i64 x.fm.Lo,.int .i64 x.fm.Hi,.sl 2 x.fS.length (fun i=>iC (x.fS.getD i aM)),.sl 2 x.iv.length (fun i=>iC (x.iv.getD i aM)),.int .i64 x.vi,.int .i64 x.Edge,.int .i64 x.jS,.int .i64 x.pA,.int .i64 x.kZ,.int .i64 x.kl,.int .i64 x.ko]
def jl (x:aU):List D:=[.str x.Name,.int .i64 x.Kind,.int .i64 x.Open.Lo,.int .i64 x.Open.Hi,.int .i64 x.dK.Lo,.int .i64 x.dK.Hi]
def o8 (x:fF):List D:=[.int .i64 x.bu,.int .i64 x.To,.int .i64 x.fo.Lo,.int .i64 x.fo.Hi]
def C9 (x:aH):List D:=[.sl 6 x.ah.length (fun i=>jl (x.ah.getD i ay)),.sl 4 x.aZ.length (fun i=>o8 (x.aZ.getD i cC))]
def oB (x:Path):List D:=[.int .i64 x.A,.int .i64 x.B,.int .i64 x.Time.Lo,.int .i64 x.Time.Hi,.int .i64 x.Open]
def oC (x:cY):List D:=[.int .i64 x.Gs,.int .i64 x.uq.Lo,.int .i64 x.uq.Hi,.int .i64 x.bu,.int .i64 x.To,.int .i64 x.jG,.sl 2 x.nX.length (fun i=>iP (x.nX.getD i cf))]
def mL (x:cd):List D:=[.int .i64 x.kv,.int .i64 x.bp.Lo,.int .i64 x.bp.Hi]
def xn (x:aw):List D:=[.int .i64 x.eX,.sl 5 x.eF.length (fun i=>oB (x.eF.getD i ia)),.sl 7 x.cT.length (fun i=>oC (x.cT.getD i ey)),.sl 2 x.jb.length (fun i=>iP (x.jb.getD i cf)),.sl 3 x.eR.length (fun i=>mL (x.eR.getD i aR))]
def zp (x:br):List D:=[.int .i64 x.lS,.int .i64 x.Rest,.int .i64 x.Day,.int .i64 x.pB]
def oF (x:eh):List D:=[.int .i64 x.bu.Lo,.int .i64 x.bu.Hi,.int .i64 x.To.Lo,.int .i64 x.To.Hi]
def pI (x:Driver):List D:=[.str x.Name,.int .i64 x.lu,.sl 4 x.bO.length (fun i=>oF (x.bO.getD i cS))]
def nsT (l:List eh):D:=match l with
 |[]=>.nil
 |a::m=>.sl 4 (a::m).length (fun i=>oF ((a::m).getD i cS))
def vv (x:dT):List D:=[.str x.Name,.int .i64 x.lu,nsT x.bO]
def zq (x:bb):List D:=[.int .i64 x.Zero,.int .i64 x.Part]
def zn (x:bR):List D:=[.int .i64 x.ju,.int .i64 x.Total]
def pJ (x:Region):List D:=[.sl 5 x.aI.Reaches.length (fun i=>oD (x.aI.Reaches.getD i b6)),.int .i64 x.aI.eW.a,.int .i64 x.aI.eW.b,.int .i64 x.aI.eW.c,.int .i64 x.aN.fm.Lo,.int .i64 x.aN.fm.Hi,.sl 2 x.aN.fS.length (fun i=>iC (x.aN.fS.getD i aM)),.sl 2 x.aN.iv.length (fun i=>iC (x.aN.iv.getD i aM)),.int .i64 x.aN.vi,.int .i64 x.aN.Edge,.int .i64 x.aN.jS,.int .i64 x.aN.pA,.int .i64 x.aN.kZ,.int .i64 x.aN.kl,.int .i64 x.aN.ko,.int .i64 x.iV,.int .i64 x.fj,.int .i64 x.b9.Lo,.int .i64 x.b9.Hi,.sl 6 x.aH.ah.length (fun i=>jl (x.aH.ah.getD i ay)),.sl 4 x.aH.aZ.length (fun i=>o8 (x.aH.aZ.getD i cC)),.int .i64 x.aw.eX,.sl 5 x.aw.eF.length (fun i=>oB (x.aw.eF.getD i ia)),.sl 7 x.aw.cT.length (fun i=>oC (x.aw.cT.getD i ey)),.sl 2 x.aw.jb.length (fun i=>iP (x.aw.jb.getD i cf)),.sl 3 x.aw.eR.length (fun i=>mL (x.aw.eR.getD i aR)),.int .i64 x.br.lS,.int .i64 x.br.Rest,.int .i64 x.br.Day,.int .i64 x.br.pB,.sl 3 x.bD.length (fun i=>pI (x.bD.getD i cR)),.int .i64 x.bb.Zero,.int .i64 x.bb.Part,.int .i64 x.bR.ju,.int .i64 x.bR.Total]
def B8 (x:fJ):List D:=[.sl 5 x.aI.Reaches.length (fun i=>oD (x.aI.Reaches.getD i b6)),.int .i64 x.aI.eW.a,.int .i64 x.aI.eW.b,.int .i64 x.aI.eW.c,.int .i64 x.aN.fm.Lo,.int .i64 x.aN.fm.Hi,.sl 2 x.aN.fS.length (fun i=>iC (x.aN.fS.getD i aM)),.sl 2 x.aN.iv.length (fun i=>iC (x.aN.iv.getD i aM)),.int .i64 x.aN.vi,.int .i64 x.aN.Edge,.int .i64 x.aN.jS,.int .i64 x.aN.pA,.int .i64 x.aN.kZ,.int .i64 x.aN.kl,.int .i64 x.aN.ko,.int .i64 x.iV,.int .i64 x.fj,.int .i64 x.b9.Lo,.int .i64 x.b9.Hi,.sl 6 x.aH.ah.length (fun i=>jl (x.aH.ah.getD i ay)),.sl 4 x.aH.aZ.length (fun i=>o8 (x.aH.aZ.getD i cC)),.int .i64 x.aw.eX,.sl 5 x.aw.eF.length (fun i=>oB (x.aw.eF.getD i ia)),.sl 7 x.aw.cT.length (fun i=>oC (x.aw.cT.getD i ey)),.sl 2 x.aw.jb.length (fun i=>iP (x.aw.jb.getD i cf)),.sl 3 x.aw.eR.length (fun i=>mL (x.aw.eR.getD i aR)),.int .i64 x.br.lS,.int .i64 x.br.Rest,.int .i64 x.br.Day,.int .i64 x.br.pB,.sl 3 x.bD.length (fun i=>vv (x.bD.getD i rm)),.int .i64 x.bb.Zero,.int .i64 x.bb.Part,.int .i64 x.bR.ju,.int .i64 x.bR.Total]
def mM (x:ff):List D:=[.int .i64 x.At,.int .i64 x.D3]
def zt (x:aS):List D:=[.int .i64 x.Way,.int .i64 x.Start,.int .i64 x.b9.Lo,.int .i64 x.b9.Hi,.sl 2 x.Holds.length (fun i=>mM (x.Holds.getD i eH))]
def Eu (x:bI):List D:=[.int .i64 x.Length,.int .i64 x.iV,.int .i64 x.fj,.sl 5 x.mB.length (fun i=>zt (x.mB.getD i mK))]
def B9 (x:bU):List D:=[.int .i64 x.Driver,.int .i64 x.Weight,.int .i64 x.aS.Way,.int .i64 x.aS.Start,.int .i64 x.aS.b9.Lo,.int .i64 x.aS.b9.Hi,.sl 2 x.aS.Holds.length (fun i=>mM (x.aS.Holds.getD i eH))]
def H5 (x:bF):List D:=[.str x.Driver.Name,.int .i64 x.Driver.lu,.sl 4 x.Driver.bO.length (fun i=>oF (x.Driver.bO.getD i cS)),.int .i64 x.rules.lS,.int .i64 x.rules.Rest,.int .i64 x.rules.Day,.int .i64 x.rules.pB]
def LC (x:iB):List D:=[.int .i64 x.aS.Way,.int .i64 x.aS.Start,.int .i64 x.aS.b9.Lo,.int .i64 x.aS.b9.Hi,.sl 2 x.aS.Holds.length (fun i=>mM (x.aS.Holds.getD i eH)),.int .i64 x.length]
def H6 (x:gq):List D:=[.int .i64 x.fb.aS.Way,.int .i64 x.fb.aS.Start,.int .i64 x.fb.aS.b9.Lo,.int .i64 x.fb.aS.b9.Hi,.sl 2 x.fb.aS.Holds.length (fun i=>mM (x.fb.aS.Holds.getD i eH)),.int .i64 x.fb.length,.sl 2 x.gone.length (fun i=>iP (x.gone.getD i cf))]
def H4 (x:iw):List D:=[.int .i64 x.a.fb.aS.Way,.int .i64 x.a.fb.aS.Start,.int .i64 x.a.fb.aS.b9.Lo,.int .i64 x.a.fb.aS.b9.Hi,.sl 2 x.a.fb.aS.Holds.length (fun i=>mM (x.a.fb.aS.Holds.getD i eH)),.int .i64 x.a.fb.length,.sl 2 x.a.gone.length (fun i=>iP (x.a.gone.getD i cf)),.int .i64 x.b.fb.aS.Way,.int .i64 x.b.fb.aS.Start,.int .i64 x.b.fb.aS.b9.Lo,.int .i64 x.b.fb.aS.b9.Hi,.sl 2 x.b.fb.aS.Holds.length (fun i=>mM (x.b.fb.aS.Holds.getD i eH)),.int .i64 x.b.fb.length,.sl 2 x.b.gone.length (fun i=>iP (x.b.gone.getD i cf))]
def P9 (x:pC):List D:=[.int .i64 x.a.Lo,.int .i64 x.a.Hi,.int .i64 x.b.Lo,.int .i64 x.b.Hi]
def LD (x:ax):List D:=[.int .u64 x.word]
def H7 (x:iI):List D:=[.sl 1 x.Open.length (fun i=>(fun y=>[.int .i64 y]) (x.Open.getD i 0)),.sl 1 x.dK.length (fun i=>(fun y=>[.int .i64 y]) (x.dK.getD i 0)),.sl 1 x.A9.length (fun i=>(fun y=>[.int .i64 y]) (x.A9.getD i 0))]
def H3 (x:dv):List D:=[.fn 105 [.rp [.int .i64 x.has] 0],.int .i64 x.least,.int .i64 x.pZ,.bool x.ground,.bool x.rest]
def WG (x:BT):List D:=[.sl 6 x.b.ah.length (fun i=>jl (x.b.ah.getD i ay)),.sl 4 x.b.aZ.length (fun i=>o8 (x.b.aZ.getD i cC)),.sl 1 x.t.Open.length (fun i=>(fun y=>[.int .i64 y]) (x.t.Open.getD i 0)),.sl 1 x.t.dK.length (fun i=>(fun y=>[.int .i64 y]) (x.t.dK.getD i 0)),.sl 1 x.t.A9.length (fun i=>(fun y=>[.int .i64 y]) (x.t.A9.getD i 0))]
def bN:(t:T)→den t→List D
 |.int k,x=>[.int k x]
 |.bool,x=>[.bool x]
 |.str,x=>[.str x]
 |.sl t,x=>[.sl (sz t) x.length (fun i=>bN t (x.getD i (bY t)))]
 |.ptr t,x=>[.rp (bN t x) 0]
 |.nK f t,x=>[.fn f [.rp (bN t x) 0]]
 |.se t,x=>[.fn x.1 [.rp (bN t x.2) 0]]
 |.zb f,_=>[.fn f []]
 |.err,x=>[.lk (Nv x)]
 |.qI f t u,x=>[.fn f [.rp (bN t x.1) 0,.rp (bN u x.2) 0]]
 |.vr f t u v,x=>[.fn f [.rp (bN t x.1) 0,.rp (bN u x.2.1) 0,.rp (bN v x.2.2) 0]]
 |.rR f t,x=>[.mf f [.agg (bN t x)]]
 |.Span,x=>iP x
 |.iH,x=>zr x
 |.dt,x=>oD x
 |.aI,x=>xo x
 |.jN,x=>LB x
 |.Closure,x=>B7 x
 |.bq,x=>iC x
 |.aN,x=>zo x
 |.aU,x=>jl x
 |.fF,x=>o8 x
 |.aH,x=>C9 x
 |.Path,x=>oB x
 |.cY,x=>oC x
 |.cd,x=>mL x
 |.aw,x=>xn x
 |.br,x=>zp x
 |.eh,x=>oF x
 |.Driver,x=>pI x
 |.dT,x=>vv x
 |.bb,x=>zq x
 |.bR,x=>zn x
 |.Region,x=>pJ x
 |.fJ,x=>B8 x
 |.ff,x=>mM x
 |.aS,x=>zt x
 |.bI,x=>Eu x
 |.bU,x=>B9 x
 |.bF,x=>H5 x
 |.iB,x=>LC x
 |.gq,x=>H6 x
 |.iw,x=>H4 x
 |.pC,x=>P9 x
 |.ax,x=>LD x
 |.iI,x=>H7 x
 |.dv,x=>H3 x
 |.BT,x=>WG x
def AV (t:T) (l:List (den t)):D:=.sl (sz t) l.length (fun i=>bN t (l.getD i (bY t)))
def RJ (t:T) (l:List (den t)):D:=match l with|[]=>.nil|_::_=>AV t l
def lQ:T→Bool
 |.int _|.bool|.str|.sl _|.ptr _|.nK _ _|.se _|.zb _|.err|.qI _ _ _|.vr _ _ _ _|.rR _ _=>false
 |_=>true
theorem uC:∀ (t:T) (x:den t),aY (bN t x)=true:=by
 intro t x
 cases t<;>try rfl
 obtain ⟨a,b,c⟩:=x
 cases c<;>rfl
mutual
inductive yN:I→I→Prop
 |same (d:I):yN d d
 |nil (t:T):yN .nil (.sl t [])
 |ft (t:T) (l:List (den t)):yN (.ft t l) (.sl t l)
 |nK (g:FuncId) {l m:List I}:bg l m→yN (.fn g [.rp l 0]) (.fn g [.rp m 0])
inductive bg:List I→List I→Prop
 |nil:bg [] []
 |cons {d d':I}{l l':List I}:yN d d'→bg l l'→bg (d::l) (d'::l')
end
theorem au {k:IntKind}{α:Type}{r:List I}{f:Int×List I→Option α}{x:α} (h:(tI k r).bind f=some x):∃ n r',r=.int k n::r'∧f (n,r')=some x:=by
 cases r with
 |nil=>cases h
 |cons d r =>
  cases d<;>try (cases h;done)
  rename_i k' n
  simp only[tI]at h
  split at h
  ·rename_i e;subst e;exact⟨n,r,rfl,h⟩
  ·cases h
theorem HC {α:Type}{r:List I}{f:Bool×List I→Option α}{x:α} (h:(tB r).bind f=some x):∃ n r',r=.bool n::r'∧f (n,r')=some x:=by
 cases r with
 |nil=>cases h
 |cons d r=>cases d<;>first|(cases h;done)|exact⟨_,_,rfl,h⟩
theorem wP {α:Type}{r:List I}{f:ByteArray×List I→Option α}{x:α} (h:(tS r).bind f=some x):∃ n r',r=.str n::r'∧f (n,r')=some x:=by
 cases r with
 |nil=>cases h
 |cons d r=>cases d<;>first|(cases h;done)|exact⟨_,_,rfl,h⟩
theorem nZ {t t':T}{l:List (den t')}{m:List (den t)} (h:kg t t' l=some m):(I.sl t' l)=.sl t m:=by
 unfold kg at h
 split at h
 ·rename_i e;subst e;simp only[Option.some.injEq]at h;subst h;rfl
 ·cases h
theorem bH {t:T}{α:Type}{r:List I}{f:List (den t)×List I→Option α}{x:α} (h:(tL t r).bind f=some x):∃ d l r',r=d::r'∧yN d (.sl t l)∧f (l,r')=some x:=by
 cases r with
 |nil=>cases h
 |cons d r =>
  cases d<;>try (cases h;done)
  ·rename_i t' l
   simp only[tL]at h
   cases ha:kg t t' l with
   |none=>rw[ha]at h;cases h
   |some m=>rw[ha]at h;exact⟨_,m,r,rfl,by rw[nZ ha];exact .same _,h⟩
  ·rename_i t' l
   simp only[tL]at h
   cases ha:kg t t' l with
   |none=>rw[ha]at h;cases h
   |some m =>
    rw[ha]at h
    have e:=nZ ha
    simp only[I.sl.injEq]at e
    obtain ⟨rfl,e⟩:=e
    have e:=eq_of_heq e
    subst e
    exact⟨_,_,r,rfl,.ft _ _,h⟩
  ·exact⟨_,[],r,rfl,.nil t,h⟩
mutual
theorem Yo:∀ {d d':I},yN d d'→Aj d=true→d=d'
 |_,_,.same _,_=>rfl
 |_,_,.nil _,h=>by simp[Aj]at h
 |_,_,.ft _ _,h=>by simp[Aj]at h
 |_,_,.nK g h1,h=>by
  simp only[Aj,fL,Bool.and_true]at h
  rw[ie h1 h]
theorem ie:∀ {l m:List I},bg l m→fL l=true→l=m
 |_,_,.nil,_=>rfl
 |_,_,.cons h1 h2,hn=>by
  simp only[fL,Bool.and_eq_true]at hn
  rw[Yo h1 hn.1,ie h2 hn.2]
end
theorem ve {α:Type}{dec:List I→Option α}{enc:α→List I} (hd:∀ {r x},dec r=some x→bg r (enc x)) {r:List I}{x:α} (h:tP dec r=some x):r=[.rp (enc x) 0]:=by
 unfold tP at h
 split at h
 ·rename_i l o r'
  split at h
  ·cases hc:fL l&&Nat.beq o 0 with
   |false=>rw[hc]at h;cases h
   |true =>
    rw[hc]at h
    simp only[Bool.and_eq_true]at hc
    rw[ie (hd h) hc.1,Nat.eq_of_beq_eq_true hc.2]
  ·cases h
 ·cases h
theorem ap2 {α:Type}{f:FuncId}{dec:List I→Option α}{enc:α→List I} (hd:∀ {r x},dec r=some x→bg r (enc x)) {r:List I}{x:α} (h:tC f dec r=some x):r=[.fn f [.rp (enc x) 0]]:=by
 unfold tC at h
 split at h
 ·rename_i g c r'
  split at h
  ·cases hc:Nat.beq g f with
   |false=>rw[hc]at h;cases h
   |true =>
    rw[hc]at h
    rw[ve hd h,Nat.eq_of_beq_eq_true hc]
  ·cases h
 ·cases h
theorem amb {α:Type}{dec:List I→Option α}{enc:α→List I} (hd:∀ {r x},dec r=some x→bg r (enc x)) {r:List I}{x:Nat×α} (h:tCv dec r=some x):bg r [.fn x.1 [.rp (enc x.2) 0]]:=by
 unfold tCv at h
 split at h
 ·rename_i g l r'
  split at h
  ·cases ha:dec l with
   |none=>rw[ha]at h;cases h
   |some a =>
    rw[ha]at h
    simp only[Option.bind_some,Option.some.injEq]at h
    subst h
    exact .cons (.nK _ (hd ha)) .nil
  ·cases h
 ·cases h
theorem acA {g:FuncId}{α:Type}{r:List I}{f:Int×List I→Option α}{x:α} (h:(tCI g r).bind f=some x):∃ n r',r=.fn g [.rp [.int .i64 n] 0]::r'∧f (n,r')=some x:=by
 unfold tCI at h
 split at h
 ·rename_i g' k n o r'
  cases hc:Nat.beq g' g&&Nat.beq o 0 with
  |false=>rw[hc]at h;cases h
  |true =>
   rw[hc]at h
   simp only[Bool.and_eq_true]at hc
   simp only[cond_true]at h
   split at h
   ·rename_i e
    subst e
    rw[Nat.eq_of_beq_eq_true hc.1,Nat.eq_of_beq_eq_true hc.2]
    exact⟨n,r',rfl,h⟩
   ·cases h
 ·cases h
theorem al7 {f:FuncId}{r:List I}{x:Unit} (h:tC0 f r=some x):r=[.fn f []]:=by
 unfold tC0 at h
 split at h
 ·rename_i g c r'
  split at h
  ·cases hc:Nat.beq g f with
   |false=>rw[hc]at h;cases h
   |true =>
    rw[hc]at h
    simp only[cond_true]at h
    split at h
    ·rw[Nat.eq_of_beq_eq_true hc]
    ·cases h
  ·cases h
 ·cases h
theorem al8 {α β:Type}{f:FuncId}{da:List I→Option α}{db:List I→Option β}{ea:α→List I}{eb:β→List I} (ha:∀ {r x},da r=some x→bg r (ea x)) (hb:∀ {r x},db r=some x→bg r (eb x)) {r:List I}{x:α×β} (h:tC2 f da db r=some x):r=[.fn f [.rp (ea x.1) 0,.rp (eb x.2) 0]]:=by
 unfold tC2 at h
 split at h
 ·rename_i g c r'
  split at h
  ·cases hc:Nat.beq g f with
   |false=>rw[hc]at h;cases h
   |true =>
    rw[hc]at h
    simp only[cond_true]at h
    split at h
    ·rename_i y ys
     cases h1:tP da [y] with
     |none=>rw[h1]at h;cases h
     |some a =>
      rw[h1]at h
      simp only[Option.bind_some]at h
      cases h2:tP db ys with
      |none=>rw[h2]at h;cases h
      |some b =>
       rw[h2]at h
       simp only[Option.bind_some,Option.some.injEq]at h
       subst h
       have e1:=ve ha h1
       have e2:=ve hb h2
       simp only[List.cons.injEq,and_true]at e1
       rw[Nat.eq_of_beq_eq_true hc,e1,e2]
    ·cases h
  ·cases h
 ·cases h
theorem al9 {α β γ:Type}{f:FuncId}{da:List I→Option α}{db:List I→Option β}{dc:List I→Option γ}{ea:α→List I}{eb:β→List I}{ec:γ→List I} (ha:∀ {r x},da r=some x→bg r (ea x)) (hb:∀ {r x},db r=some x→bg r (eb x)) (lB:∀ {r x},dc r=some x→bg r (ec x)) {r:List I}{x:α×β×γ} (h:tC3 f da db dc r=some x):r=[.fn f [.rp (ea x.1) 0,.rp (eb x.2.1) 0,.rp (ec x.2.2) 0]]:=by
 unfold tC3 at h
 split at h
 ·rename_i g c r'
  split at h
  ·cases hc:Nat.beq g f with
   |false=>rw[hc]at h;cases h
   |true =>
    rw[hc]at h
    simp only[cond_true]at h
    split at h
    ·rename_i y y2 ys
     cases h1:tP da [y] with
     |none=>rw[h1]at h;cases h
     |some a =>
      rw[h1]at h
      simp only[Option.bind_some]at h
      cases h2:tP db [y2] with
      |none=>rw[h2]at h;cases h
      |some b =>
       rw[h2]at h
       simp only[Option.bind_some]at h
       cases h3:tP dc ys with
       |none=>rw[h3]at h;cases h
       |some d =>
        rw[h3]at h
        simp only[Option.bind_some,Option.some.injEq]at h
        subst h
        have e1:=ve ha h1
        have e2:=ve hb h2
        have e3:=ve lB h3
        simp only[List.cons.injEq,and_true]at e1 e2
        rw[Nat.eq_of_beq_eq_true hc,e1,e2,e3]
    ·cases h
  ·cases h
 ·cases h
theorem ap3 {α:Type}{f:FuncId}{dec:List I→Option α}{enc:α→List I} (hd:∀ {r x},dec r=some x→bg r (enc x)) {r:List I}{x:α} (h:tM f dec r=some x):r=[.mf f [.agg (enc x)]]:=by
 unfold tM at h
 split at h
 ·rename_i g c r'
  split at h
  ·cases hc:Nat.beq g f with
   |false=>rw[hc]at h;cases h
   |true =>
    rw[hc]at h
    simp only[cond_true]at h
    split at h
    ·rename_i l
     cases hn:fL l with
     |false=>rw[hn]at h;cases h
     |true =>
      rw[hn]at h
      rw[Nat.eq_of_beq_eq_true hc,ie (hd h) hn]
    ·cases h
  ·cases h
 ·cases h
theorem dL {α:Type}{r:List I}{a x:α} (h:tE r a=some x):r=[]∧a=x:=by
 cases r with
 |nil=>exact⟨rfl,by simpa[tE] using h⟩
 |cons=>cases h
theorem SL {r:List I}{x:Span} (h:GS r=some x):bg r (Qi x):=by
 have h0:=h;unfold GS at h0;clear h
 obtain ⟨n0,r0,q0,h1⟩:=au h0
 replace q0:r=_:=q0;subst q0
 obtain ⟨n1,r1,q1,h2⟩:=au h1
 replace q1:r0=_:=q1;subst q1
 obtain ⟨qe,qx⟩:=dL h2
 replace qe:r1=[]:=qe;subst qe;subst qx
 exact .cons (.same _) (.cons (.same _) (bg.nil))
theorem Pb {r:List I}{x:iH} (h:C0 r=some x):bg r (LN x):=by
 have h0:=h;unfold C0 at h0;clear h
 obtain ⟨n0,r0,q0,h1⟩:=au h0
 replace q0:r=_:=q0;subst q0
 obtain ⟨n1,r1,q1,h2⟩:=au h1
 replace q1:r0=_:=q1;subst q1
 obtain ⟨n2,r2,q2,h3⟩:=au h2
 replace q2:r1=_:=q2;subst q2
 obtain ⟨qe,qx⟩:=dL h3
 replace qe:r2=[]:=qe;subst qe;subst qx
 exact .cons (.same _) (.cons (.same _) (.cons (.same _) (bg.nil)))
theorem SI {r:List I}{x:dt} (h:GO r=some x):bg r (Qe x):=by
 have h0:=h;unfold GO at h0;clear h
 obtain ⟨n0,r0,q0,h1⟩:=au h0
 replace q0:r=_:=q0;subst q0
 obtain ⟨n1,r1,q1,h2⟩:=au h1
 replace q1:r0=_:=q1;subst q1
 obtain ⟨n2,r2,q2,h3⟩:=au h2
 replace q2:r1=_:=q2;subst q2
 obtain ⟨n3,r3,q3,h4⟩:=au h3
 replace q3:r2=_:=q3;subst q3
 obtain ⟨n4,r4,q4,h5⟩:=au h4
 replace q4:r3=_:=q4;subst q4
 obtain ⟨qe,qx⟩:=dL h5
 replace qe:r4=[]:=qe;subst qe;subst qx
 exact .cons (.same _) (.cons (.same _) (.cons (.same _) (.cons (.same _) (.cons (.same _) (bg.nil)))))
theorem Lu {r:List I}{x:aI} (h:zi r=some x):bg r (Ib x):=by
 have h0:=h;unfold zi at h0;clear h
 obtain ⟨d0,l0,r0,q0,e0,h1⟩:=bH h0
 replace q0:r=_:=q0;subst q0
 obtain ⟨n1,r1,q1,h2⟩:=au h1
 replace q1:r0=_:=q1;subst q1
 obtain ⟨n2,r2,q2,h3⟩:=au h2
 replace q2:r1=_:=q2;subst q2
 obtain ⟨n3,r3,q3,h4⟩:=au h3
 replace q3:r2=_:=q3;subst q3
 obtain ⟨qe,qx⟩:=dL h4
 replace qe:r3=[]:=qe;subst qe;subst qx
 exact .cons e0 (.cons (.same _) (.cons (.same _) (.cons (.same _) (bg.nil))))
theorem SF {r:List I}{x:jN} (h:GK r=some x):bg r (Qb x):=by
 have h0:=h;unfold GK at h0;clear h
 obtain ⟨n0,r0,q0,h1⟩:=au h0
 replace q0:r=_:=q0;subst q0
 obtain ⟨n1,r1,q1,h2⟩:=au h1
 replace q1:r0=_:=q1;subst q1
 obtain ⟨n2,r2,q2,h3⟩:=au h2
 replace q2:r1=_:=q2;subst q2
 obtain ⟨n3,r3,q3,h4⟩:=au h3
 replace q3:r2=_:=q3;subst q3
 obtain ⟨n4,r4,q4,h5⟩:=au h4
 replace q4:r3=_:=q4;subst q4
 obtain ⟨qe,qx⟩:=dL h5
 replace qe:r4=[]:=qe;subst qe;subst qx
 exact .cons (.same _) (.cons (.same _) (.cons (.same _) (.cons (.same _) (.cons (.same _) (bg.nil)))))
theorem Ja {r:List I}{x:Closure} (h:xi r=some x):bg r (Er x):=by
 have h0:=h;unfold xi at h0;clear h
 obtain ⟨n0,r0,q0,h1⟩:=au h0
 replace q0:r=_:=q0;subst q0
 obtain ⟨n1,r1,q1,h2⟩:=au h1
 replace q1:r0=_:=q1;subst q1
 obtain ⟨n2,r2,q2,h3⟩:=au h2
 replace q2:r1=_:=q2;subst q2
 obtain ⟨qe,qx⟩:=dL h3
 replace qe:r2=[]:=qe;subst qe;subst qx
 exact .cons (.same _) (.cons (.same _) (.cons (.same _) (bg.nil)))
theorem O9 {r:List I}{x:bq} (h:CY r=some x):bg r (LL x):=by
 have h0:=h;unfold CY at h0;clear h
 obtain ⟨n0,r0,q0,h1⟩:=au h0
 replace q0:r=_:=q0;subst q0
 obtain ⟨n1,r1,q1,h2⟩:=au h1
 replace q1:r0=_:=q1;subst q1
 obtain ⟨qe,qx⟩:=dL h2
 replace qe:r1=[]:=qe;subst qe;subst qx
 exact .cons (.same _) (.cons (.same _) (bg.nil))
theorem O6 {r:List I}{x:aN} (h:CS r=some x):bg r (LH x):=by
 have h0:=h;unfold CS at h0;clear h
 obtain ⟨n0,r0,q0,h1⟩:=au h0
 replace q0:r=_:=q0;subst q0
 obtain ⟨n1,r1,q1,h2⟩:=au h1
 replace q1:r0=_:=q1;subst q1
 obtain ⟨d2,l2,r2,q2,e2,h3⟩:=bH h2
 replace q2:r1=_:=q2;subst q2
 obtain ⟨d3,l3,r3,q3,e3,h4⟩:=bH h3
 replace q3:r2=_:=q3;subst q3
 obtain ⟨n4,r4,q4,h5⟩:=au h4
 replace q4:r3=_:=q4;subst q4
 obtain ⟨n5,r5,q5,h6⟩:=au h5
 replace q5:r4=_:=q5;subst q5
 obtain ⟨n6,r6,q6,h7⟩:=au h6
 replace q6:r5=_:=q6;subst q6
 obtain ⟨n7,r7,q7,h8⟩:=au h7
 replace q7:r6=_:=q7;subst q7
 obtain ⟨n8,r8,q8,h9⟩:=au h8
 replace q8:r7=_:=q8;subst q8
 obtain ⟨n9,r9,q9,fT⟩:=au h9
 replace q9:r8=_:=q9;subst q9
 obtain ⟨n10,dN,tU,iD⟩:=au fT
 replace tU:r9=_:=tU;subst tU
 obtain ⟨qe,qx⟩:=dL iD
 replace qe:dN=[]:=qe;subst qe;subst qx
 exact .cons (.same _) (.cons (.same _) (.cons e2 (.cons e3 (.cons (.same _) (.cons (.same _) (.cons (.same _) (.cons (.same _) (.cons (.same _) (.cons (.same _) (.cons (.same _) (bg.nil)))))))))))
theorem I9 {r:List I}{x:aU} (h:xh r=some x):bg r (Ep x):=by
 have h0:=h;unfold xh at h0;clear h
 obtain ⟨n0,r0,q0,h1⟩:=wP h0
 replace q0:r=_:=q0;subst q0
 obtain ⟨n1,r1,q1,h2⟩:=au h1
 replace q1:r0=_:=q1;subst q1
 obtain ⟨n2,r2,q2,h3⟩:=au h2
 replace q2:r1=_:=q2;subst q2
 obtain ⟨n3,r3,q3,h4⟩:=au h3
 replace q3:r2=_:=q3;subst q3
 obtain ⟨n4,r4,q4,h5⟩:=au h4
 replace q4:r3=_:=q4;subst q4
 obtain ⟨n5,r5,q5,h6⟩:=au h5
 replace q5:r4=_:=q5;subst q5
 obtain ⟨qe,qx⟩:=dL h6
 replace qe:r5=[]:=qe;subst qe;subst qx
 exact .cons (.same _) (.cons (.same _) (.cons (.same _) (.cons (.same _) (.cons (.same _) (.cons (.same _) (bg.nil))))))
theorem Wv {r:List I}{x:fF} (h:Ln r=some x):bg r (WH x):=by
 have h0:=h;unfold Ln at h0;clear h
 obtain ⟨n0,r0,q0,h1⟩:=au h0
 replace q0:r=_:=q0;subst q0
 obtain ⟨n1,r1,q1,h2⟩:=au h1
 replace q1:r0=_:=q1;subst q1
 obtain ⟨n2,r2,q2,h3⟩:=au h2
 replace q2:r1=_:=q2;subst q2
 obtain ⟨n3,r3,q3,h4⟩:=au h3
 replace q3:r2=_:=q3;subst q3
 obtain ⟨qe,qx⟩:=dL h4
 replace qe:r3=[]:=qe;subst qe;subst qx
 exact .cons (.same _) (.cons (.same _) (.cons (.same _) (.cons (.same _) (bg.nil))))
theorem SD {r:List I}{x:aH} (h:GG r=some x):bg r (P8 x):=by
 have h0:=h;unfold GG at h0;clear h
 obtain ⟨d0,l0,r0,q0,e0,h1⟩:=bH h0
 replace q0:r=_:=q0;subst q0
 obtain ⟨d1,l1,r1,q1,e1,h2⟩:=bH h1
 replace q1:r0=_:=q1;subst q1
 obtain ⟨qe,qx⟩:=dL h2
 replace qe:r1=[]:=qe;subst qe;subst qx
 exact .cons e0 (.cons e1 (bg.nil))
theorem SG {r:List I}{x:Path} (h:GM r=some x):bg r (Qc x):=by
 have h0:=h;unfold GM at h0;clear h
 obtain ⟨n0,r0,q0,h1⟩:=au h0
 replace q0:r=_:=q0;subst q0
 obtain ⟨n1,r1,q1,h2⟩:=au h1
 replace q1:r0=_:=q1;subst q1
 obtain ⟨n2,r2,q2,h3⟩:=au h2
 replace q2:r1=_:=q2;subst q2
 obtain ⟨n3,r3,q3,h4⟩:=au h3
 replace q3:r2=_:=q3;subst q3
 obtain ⟨n4,r4,q4,h5⟩:=au h4
 replace q4:r3=_:=q4;subst q4
 obtain ⟨qe,qx⟩:=dL h5
 replace qe:r4=[]:=qe;subst qe;subst qx
 exact .cons (.same _) (.cons (.same _) (.cons (.same _) (.cons (.same _) (.cons (.same _) (bg.nil)))))
theorem SH {r:List I}{x:cY} (h:GN r=some x):bg r (Qd x):=by
 have h0:=h;unfold GN at h0;clear h
 obtain ⟨n0,r0,q0,h1⟩:=au h0
 replace q0:r=_:=q0;subst q0
 obtain ⟨n1,r1,q1,h2⟩:=au h1
 replace q1:r0=_:=q1;subst q1
 obtain ⟨n2,r2,q2,h3⟩:=au h2
 replace q2:r1=_:=q2;subst q2
 obtain ⟨n3,r3,q3,h4⟩:=au h3
 replace q3:r2=_:=q3;subst q3
 obtain ⟨n4,r4,q4,h5⟩:=au h4
 replace q4:r3=_:=q4;subst q4
 obtain ⟨n5,r5,q5,h6⟩:=au h5
 replace q5:r4=_:=q5;subst q5
 obtain ⟨d6,l6,r6,q6,e6,h7⟩:=bH h6
 replace q6:r5=_:=q6;subst q6
 obtain ⟨qe,qx⟩:=dL h7
 replace qe:r6=[]:=qe;subst qe;subst qx
 exact .cons (.same _) (.cons (.same _) (.cons (.same _) (.cons (.same _) (.cons (.same _) (.cons (.same _) (.cons e6 (bg.nil)))))))
theorem O3 {r:List I}{x:cd} (h:CO r=some x):bg r (LA x):=by
 have h0:=h;unfold CO at h0;clear h
 obtain ⟨n0,r0,q0,h1⟩:=au h0
 replace q0:r=_:=q0;subst q0
 obtain ⟨n1,r1,q1,h2⟩:=au h1
 replace q1:r0=_:=q1;subst q1
 obtain ⟨n2,r2,q2,h3⟩:=au h2
 replace q2:r1=_:=q2;subst q2
 obtain ⟨qe,qx⟩:=dL h3
 replace qe:r2=[]:=qe;subst qe;subst qx
 exact .cons (.same _) (.cons (.same _) (.cons (.same _) (bg.nil)))
theorem Lq {r:List I}{x:aw} (h:zg r=some x):bg r (Ia x):=by
 have h0:=h;unfold zg at h0;clear h
 obtain ⟨n0,r0,q0,h1⟩:=au h0
 replace q0:r=_:=q0;subst q0
 obtain ⟨d1,l1,r1,q1,e1,h2⟩:=bH h1
 replace q1:r0=_:=q1;subst q1
 obtain ⟨d2,l2,r2,q2,e2,h3⟩:=bH h2
 replace q2:r1=_:=q2;subst q2
 obtain ⟨d3,l3,r3,q3,e3,h4⟩:=bH h3
 replace q3:r2=_:=q3;subst q3
 obtain ⟨d4,l4,r4,q4,e4,h5⟩:=bH h4
 replace q4:r3=_:=q4;subst q4
 obtain ⟨qe,qx⟩:=dL h5
 replace qe:r4=[]:=qe;subst qe;subst qx
 exact .cons (.same _) (.cons e1 (.cons e2 (.cons e3 (.cons e4 (bg.nil)))))
theorem O7 {r:List I}{x:br} (h:CW r=some x):bg r (LI x):=by
 have h0:=h;unfold CW at h0;clear h
 obtain ⟨n0,r0,q0,h1⟩:=au h0
 replace q0:r=_:=q0;subst q0
 obtain ⟨n1,r1,q1,h2⟩:=au h1
 replace q1:r0=_:=q1;subst q1
 obtain ⟨n2,r2,q2,h3⟩:=au h2
 replace q2:r1=_:=q2;subst q2
 obtain ⟨n3,r3,q3,h4⟩:=au h3
 replace q3:r2=_:=q3;subst q3
 obtain ⟨qe,qx⟩:=dL h4
 replace qe:r3=[]:=qe;subst qe;subst qx
 exact .cons (.same _) (.cons (.same _) (.cons (.same _) (.cons (.same _) (bg.nil))))
theorem SM {r:List I}{x:eh} (h:GU r=some x):bg r (Qj x):=by
 have h0:=h;unfold GU at h0;clear h
 obtain ⟨n0,r0,q0,h1⟩:=au h0
 replace q0:r=_:=q0;subst q0
 obtain ⟨n1,r1,q1,h2⟩:=au h1
 replace q1:r0=_:=q1;subst q1
 obtain ⟨n2,r2,q2,h3⟩:=au h2
 replace q2:r1=_:=q2;subst q2
 obtain ⟨n3,r3,q3,h4⟩:=au h3
 replace q3:r2=_:=q3;subst q3
 obtain ⟨qe,qx⟩:=dL h4
 replace qe:r3=[]:=qe;subst qe;subst qx
 exact .cons (.same _) (.cons (.same _) (.cons (.same _) (.cons (.same _) (bg.nil))))
theorem Lm {r:List I}{x:Driver} (h:ze r=some x):bg r (H8 x):=by
 have h0:=h;unfold ze at h0;clear h
 obtain ⟨n0,r0,q0,h1⟩:=wP h0
 replace q0:r=_:=q0;subst q0
 obtain ⟨n1,r1,q1,h2⟩:=au h1
 replace q1:r0=_:=q1;subst q1
 obtain ⟨d2,l2,r2,q2,e2,h3⟩:=bH h2
 replace q2:r1=_:=q2;subst q2
 obtain ⟨qe,qx⟩:=dL h3
 replace qe:r2=[]:=qe;subst qe;subst qx
 exact .cons (.same _) (.cons (.same _) (.cons e2 (bg.nil)))
theorem acB {t:T}{α:Type}{r:List I}{f:List (den t)×List I→Option α}{x:α} (h:(tNs t r).bind f=some x):∃ l r',r=nsI t l::r'∧f (l,r')=some x:=by
 unfold tNs at h
 split at h
 ·split at h
  ·rename_i ha
   have e:=nZ ha
   simp only[I.sl.injEq]at e
   obtain ⟨rfl,e⟩:=e
   have e:=eq_of_heq e
   subst e
   exact⟨_,_,rfl,h⟩
  ·cases h
 ·exact⟨[],_,rfl,h⟩
 ·cases h
theorem Jb {r:List I}{x:dT} (h:xj r=some x):bg r (Ev x):=by
 have h0:=h;unfold xj at h0;clear h
 obtain ⟨n0,r0,q0,h1⟩:=wP h0
 replace q0:r=_:=q0;subst q0
 obtain ⟨n1,r1,q1,h2⟩:=au h1
 replace q1:r0=_:=q1;subst q1
 obtain ⟨l2,r2,q2,h3⟩:=acB h2
 replace q2:r1=_:=q2;subst q2
 obtain ⟨qe,qx⟩:=dL h3
 replace qe:r2=[]:=qe;subst qe;subst qx
 exact .cons (.same _) (.cons (.same _) (.cons (.same _) (bg.nil)))
theorem O8 {r:List I}{x:bb} (h:CX r=some x):bg r (LJ x):=by
 have h0:=h;unfold CX at h0;clear h
 obtain ⟨n0,r0,q0,h1⟩:=au h0
 replace q0:r=_:=q0;subst q0
 obtain ⟨n1,r1,q1,h2⟩:=au h1
 replace q1:r0=_:=q1;subst q1
 obtain ⟨qe,qx⟩:=dL h2
 replace qe:r1=[]:=qe;subst qe;subst qx
 exact .cons (.same _) (.cons (.same _) (bg.nil))
theorem O2 {r:List I}{x:bR} (h:CN r=some x):bg r (Lz x):=by
 have h0:=h;unfold CN at h0;clear h
 obtain ⟨n0,r0,q0,h1⟩:=au h0
 replace q0:r=_:=q0;subst q0
 obtain ⟨n1,r1,q1,h2⟩:=au h1
 replace q1:r0=_:=q1;subst q1
 obtain ⟨qe,qx⟩:=dL h2
 replace qe:r1=[]:=qe;subst qe;subst qx
 exact .cons (.same _) (.cons (.same _) (bg.nil))
theorem Lp {r:List I}{x:Region} (h:zf r=some x):bg r (H9 x):=by
 have h0:=h;unfold zf at h0;clear h
 obtain ⟨d0,l0,r0,q0,e0,h1⟩:=bH h0
 replace q0:r=_:=q0;subst q0
 obtain ⟨n1,r1,q1,h2⟩:=au h1
 replace q1:r0=_:=q1;subst q1
 obtain ⟨n2,r2,q2,h3⟩:=au h2
 replace q2:r1=_:=q2;subst q2
 obtain ⟨n3,r3,q3,h4⟩:=au h3
 replace q3:r2=_:=q3;subst q3
 obtain ⟨n4,r4,q4,h5⟩:=au h4
 replace q4:r3=_:=q4;subst q4
 obtain ⟨n5,r5,q5,h6⟩:=au h5
 replace q5:r4=_:=q5;subst q5
 obtain ⟨d6,l6,r6,q6,e6,h7⟩:=bH h6
 replace q6:r5=_:=q6;subst q6
 obtain ⟨d7,l7,r7,q7,e7,h8⟩:=bH h7
 replace q7:r6=_:=q7;subst q7
 obtain ⟨n8,r8,q8,h9⟩:=au h8
 replace q8:r7=_:=q8;subst q8
 obtain ⟨n9,r9,q9,fT⟩:=au h9
 replace q9:r8=_:=q9;subst q9
 obtain ⟨n10,dN,tU,iD⟩:=au fT
 replace tU:r9=_:=tU;subst tU
 obtain ⟨n11,jC,Au,jz⟩:=au iD
 replace Au:dN=_:=Au;subst Au
 obtain ⟨n12,fX,Av,jm⟩:=au jz
 replace Av:jC=_:=Av;subst Av
 obtain ⟨n13,jD,Aw,gK⟩:=au jm
 replace Aw:fX=_:=Aw;subst Aw
 obtain ⟨n14,j7,NK,kA⟩:=au gK
 replace NK:jD=_:=NK;subst NK
 obtain ⟨n15,jo,NL,h16⟩:=au kA
 replace NL:j7=_:=NL;subst NL
 obtain ⟨n16,nP,NM,h17⟩:=au h16
 replace NM:jo=_:=NM;subst NM
 obtain ⟨n17,nr,NN,h18⟩:=au h17
 replace NN:nP=_:=NN;subst NN
 obtain ⟨n18,nQ,NO,h19⟩:=au h18
 replace NO:nr=_:=NO;subst NO
 obtain ⟨d19,l19,rU,NP,e19,yh⟩:=bH h19
 replace NP:nQ=_:=NP;subst NP
 obtain ⟨d20,l20,qw,NQ,e20,Ij⟩:=bH yh
 replace NQ:rU=_:=NQ;subst NQ
 obtain ⟨n21,oo,NR,h22⟩:=au Ij
 replace NR:qw=_:=NR;subst NR
 obtain ⟨d22,l22,wD,NS,e22,EW⟩:=bH h22
 replace NS:oo=_:=NS;subst NS
 obtain ⟨d23,l23,uS,NT,e23,h24⟩:=bH EW
 replace NT:wD=_:=NT;subst NT
 obtain ⟨d24,l24,IK,NU,e24,h25⟩:=bH h24
 replace NU:uS=_:=NU;subst NU
 obtain ⟨d25,l25,IL,NV,e25,h26⟩:=bH h25
 replace NV:IK=_:=NV;subst NV
 obtain ⟨n26,IM,NW,h27⟩:=au h26
 replace NW:IL=_:=NW;subst NW
 obtain ⟨n27,Y6,NX,h28⟩:=au h27
 replace NX:IM=_:=NX;subst NX
 obtain ⟨n28,Y7,NY,h29⟩:=au h28
 replace NY:Y6=_:=NY;subst NY
 obtain ⟨n29,Y8,NZ,QG⟩:=au h29
 replace NZ:Y7=_:=NZ;subst NZ
 obtain ⟨d30,l30,Y9,N0,e30,h31⟩:=bH QG
 replace N0:Y8=_:=N0;subst N0
 obtain ⟨n31,Rv,N1,h32⟩:=au h31
 replace N1:Y9=_:=N1;subst N1
 obtain ⟨n32,Za,N3,h33⟩:=au h32
 replace N3:Rv=_:=N3;subst N3
 obtain ⟨n33,Zb,N4,h34⟩:=au h33
 replace N4:Za=_:=N4;subst N4
 obtain ⟨n34,Zc,N5,h35⟩:=au h34
 replace N5:Zb=_:=N5;subst N5
 obtain ⟨qe,qx⟩:=dL h35
 replace qe:Zc=[]:=qe;subst qe;subst qx
 exact .cons e0 (.cons (.same _) (.cons (.same _) (.cons (.same _) (.cons (.same _) (.cons (.same _) (.cons e6 (.cons e7 (.cons (.same _) (.cons (.same _) (.cons (.same _) (.cons (.same _) (.cons (.same _) (.cons (.same _) (.cons (.same _) (.cons (.same _) (.cons (.same _) (.cons (.same _) (.cons (.same _) (.cons e19 (.cons e20 (.cons (.same _) (.cons e22 (.cons e23 (.cons e24 (.cons e25 (.cons (.same _) (.cons (.same _) (.cons (.same _) (.cons (.same _) (.cons e30 (.cons (.same _) (.cons (.same _) (.cons (.same _) (.cons (.same _) (bg.nil)))))))))))))))))))))))))))))))))))
theorem Jc {r:List I}{x:fJ} (h:xk r=some x):bg r (Ex x):=by
 have h0:=h;unfold xk at h0;clear h
 obtain ⟨d0,l0,r0,q0,e0,h1⟩:=bH h0
 replace q0:r=_:=q0;subst q0
 obtain ⟨n1,r1,q1,h2⟩:=au h1
 replace q1:r0=_:=q1;subst q1
 obtain ⟨n2,r2,q2,h3⟩:=au h2
 replace q2:r1=_:=q2;subst q2
 obtain ⟨n3,r3,q3,h4⟩:=au h3
 replace q3:r2=_:=q3;subst q3
 obtain ⟨n4,r4,q4,h5⟩:=au h4
 replace q4:r3=_:=q4;subst q4
 obtain ⟨n5,r5,q5,h6⟩:=au h5
 replace q5:r4=_:=q5;subst q5
 obtain ⟨d6,l6,r6,q6,e6,h7⟩:=bH h6
 replace q6:r5=_:=q6;subst q6
 obtain ⟨d7,l7,r7,q7,e7,h8⟩:=bH h7
 replace q7:r6=_:=q7;subst q7
 obtain ⟨n8,r8,q8,h9⟩:=au h8
 replace q8:r7=_:=q8;subst q8
 obtain ⟨n9,r9,q9,fT⟩:=au h9
 replace q9:r8=_:=q9;subst q9
 obtain ⟨n10,dN,tU,iD⟩:=au fT
 replace tU:r9=_:=tU;subst tU
 obtain ⟨n11,jC,Au,jz⟩:=au iD
 replace Au:dN=_:=Au;subst Au
 obtain ⟨n12,fX,Av,jm⟩:=au jz
 replace Av:jC=_:=Av;subst Av
 obtain ⟨n13,jD,Aw,gK⟩:=au jm
 replace Aw:fX=_:=Aw;subst Aw
 obtain ⟨n14,j7,NK,kA⟩:=au gK
 replace NK:jD=_:=NK;subst NK
 obtain ⟨n15,jo,NL,h16⟩:=au kA
 replace NL:j7=_:=NL;subst NL
 obtain ⟨n16,nP,NM,h17⟩:=au h16
 replace NM:jo=_:=NM;subst NM
 obtain ⟨n17,nr,NN,h18⟩:=au h17
 replace NN:nP=_:=NN;subst NN
 obtain ⟨n18,nQ,NO,h19⟩:=au h18
 replace NO:nr=_:=NO;subst NO
 obtain ⟨d19,l19,rU,NP,e19,yh⟩:=bH h19
 replace NP:nQ=_:=NP;subst NP
 obtain ⟨d20,l20,qw,NQ,e20,Ij⟩:=bH yh
 replace NQ:rU=_:=NQ;subst NQ
 obtain ⟨n21,oo,NR,h22⟩:=au Ij
 replace NR:qw=_:=NR;subst NR
 obtain ⟨d22,l22,wD,NS,e22,EW⟩:=bH h22
 replace NS:oo=_:=NS;subst NS
 obtain ⟨d23,l23,uS,NT,e23,h24⟩:=bH EW
 replace NT:wD=_:=NT;subst NT
 obtain ⟨d24,l24,IK,NU,e24,h25⟩:=bH h24
 replace NU:uS=_:=NU;subst NU
 obtain ⟨d25,l25,IL,NV,e25,h26⟩:=bH h25
 replace NV:IK=_:=NV;subst NV
 obtain ⟨n26,IM,NW,h27⟩:=au h26
 replace NW:IL=_:=NW;subst NW
 obtain ⟨n27,Y6,NX,h28⟩:=au h27
 replace NX:IM=_:=NX;subst NX
 obtain ⟨n28,Y7,NY,h29⟩:=au h28
 replace NY:Y6=_:=NY;subst NY
 obtain ⟨n29,Y8,NZ,QG⟩:=au h29
 replace NZ:Y7=_:=NZ;subst NZ
 obtain ⟨d30,l30,Y9,N0,e30,h31⟩:=bH QG
 replace N0:Y8=_:=N0;subst N0
 obtain ⟨n31,Rv,N1,h32⟩:=au h31
 replace N1:Y9=_:=N1;subst N1
 obtain ⟨n32,Za,N3,h33⟩:=au h32
 replace N3:Rv=_:=N3;subst N3
 obtain ⟨n33,Zb,N4,h34⟩:=au h33
 replace N4:Za=_:=N4;subst N4
 obtain ⟨n34,Zc,N5,h35⟩:=au h34
 replace N5:Zb=_:=N5;subst N5
 obtain ⟨qe,qx⟩:=dL h35
 replace qe:Zc=[]:=qe;subst qe;subst qx
 exact .cons e0 (.cons (.same _) (.cons (.same _) (.cons (.same _) (.cons (.same _) (.cons (.same _) (.cons e6 (.cons e7 (.cons (.same _) (.cons (.same _) (.cons (.same _) (.cons (.same _) (.cons (.same _) (.cons (.same _) (.cons (.same _) (.cons (.same _) (.cons (.same _) (.cons (.same _) (.cons (.same _) (.cons e19 (.cons e20 (.cons (.same _) (.cons e22 (.cons e23 (.cons e24 (.cons e25 (.cons (.same _) (.cons (.same _) (.cons (.same _) (.cons (.same _) (.cons e30 (.cons (.same _) (.cons (.same _) (.cons (.same _) (.cons (.same _) (bg.nil)))))))))))))))))))))))))))))))))))
theorem SE {r:List I}{x:ff} (h:GJ r=some x):bg r (Qa x):=by
 have h0:=h;unfold GJ at h0;clear h
 obtain ⟨n0,r0,q0,h1⟩:=au h0
 replace q0:r=_:=q0;subst q0
 obtain ⟨n1,r1,q1,h2⟩:=au h1
 replace q1:r0=_:=q1;subst q1
 obtain ⟨qe,qx⟩:=dL h2
 replace qe:r1=[]:=qe;subst qe;subst qx
 exact .cons (.same _) (.cons (.same _) (bg.nil))
theorem Pd {r:List I}{x:aS} (h:C2 r=some x):bg r (LP x):=by
 have h0:=h;unfold C2 at h0;clear h
 obtain ⟨n0,r0,q0,h1⟩:=au h0
 replace q0:r=_:=q0;subst q0
 obtain ⟨n1,r1,q1,h2⟩:=au h1
 replace q1:r0=_:=q1;subst q1
 obtain ⟨n2,r2,q2,h3⟩:=au h2
 replace q2:r1=_:=q2;subst q2
 obtain ⟨n3,r3,q3,h4⟩:=au h3
 replace q3:r2=_:=q3;subst q3
 obtain ⟨d4,l4,r4,q4,e4,h5⟩:=bH h4
 replace q4:r3=_:=q4;subst q4
 obtain ⟨qe,qx⟩:=dL h5
 replace qe:r4=[]:=qe;subst qe;subst qx
 exact .cons (.same _) (.cons (.same _) (.cons (.same _) (.cons (.same _) (.cons e4 (bg.nil)))))
theorem Ll {r:List I}{x:bI} (h:zd r=some x):bg r (H2 x):=by
 have h0:=h;unfold zd at h0;clear h
 obtain ⟨n0,r0,q0,h1⟩:=au h0
 replace q0:r=_:=q0;subst q0
 obtain ⟨n1,r1,q1,h2⟩:=au h1
 replace q1:r0=_:=q1;subst q1
 obtain ⟨n2,r2,q2,h3⟩:=au h2
 replace q2:r1=_:=q2;subst q2
 obtain ⟨d3,l3,r3,q3,e3,h4⟩:=bH h3
 replace q3:r2=_:=q3;subst q3
 obtain ⟨qe,qx⟩:=dL h4
 replace qe:r3=[]:=qe;subst qe;subst qx
 exact .cons (.same _) (.cons (.same _) (.cons (.same _) (.cons e3 (bg.nil))))
theorem Jd {r:List I}{x:bU} (h:xl r=some x):bg r (Ey x):=by
 have h0:=h;unfold xl at h0;clear h
 obtain ⟨n0,r0,q0,h1⟩:=au h0
 replace q0:r=_:=q0;subst q0
 obtain ⟨n1,r1,q1,h2⟩:=au h1
 replace q1:r0=_:=q1;subst q1
 obtain ⟨n2,r2,q2,h3⟩:=au h2
 replace q2:r1=_:=q2;subst q2
 obtain ⟨n3,r3,q3,h4⟩:=au h3
 replace q3:r2=_:=q3;subst q3
 obtain ⟨n4,r4,q4,h5⟩:=au h4
 replace q4:r3=_:=q4;subst q4
 obtain ⟨n5,r5,q5,h6⟩:=au h5
 replace q5:r4=_:=q5;subst q5
 obtain ⟨d6,l6,r6,q6,e6,h7⟩:=bH h6
 replace q6:r5=_:=q6;subst q6
 obtain ⟨qe,qx⟩:=dL h7
 replace qe:r6=[]:=qe;subst qe;subst qx
 exact .cons (.same _) (.cons (.same _) (.cons (.same _) (.cons (.same _) (.cons (.same _) (.cons (.same _) (.cons e6 (bg.nil)))))))
theorem Pa {r:List I}{x:bF} (h:CZ r=some x):bg r (LM x):=by
 have h0:=h;unfold CZ at h0;clear h
 obtain ⟨n0,r0,q0,h1⟩:=wP h0
 replace q0:r=_:=q0;subst q0
 obtain ⟨n1,r1,q1,h2⟩:=au h1
 replace q1:r0=_:=q1;subst q1
 obtain ⟨d2,l2,r2,q2,e2,h3⟩:=bH h2
 replace q2:r1=_:=q2;subst q2
 obtain ⟨n3,r3,q3,h4⟩:=au h3
 replace q3:r2=_:=q3;subst q3
 obtain ⟨n4,r4,q4,h5⟩:=au h4
 replace q4:r3=_:=q4;subst q4
 obtain ⟨n5,r5,q5,h6⟩:=au h5
 replace q5:r4=_:=q5;subst q5
 obtain ⟨n6,r6,q6,h7⟩:=au h6
 replace q6:r5=_:=q6;subst q6
 obtain ⟨qe,qx⟩:=dL h7
 replace qe:r6=[]:=qe;subst qe;subst qx
 exact .cons (.same _) (.cons (.same _) (.cons e2 (.cons (.same _) (.cons (.same _) (.cons (.same _) (.cons (.same _) (bg.nil)))))))
theorem SJ {r:List I}{x:iB} (h:GP r=some x):bg r (Qf x):=by
 have h0:=h;unfold GP at h0;clear h
 obtain ⟨n0,r0,q0,h1⟩:=au h0
 replace q0:r=_:=q0;subst q0
 obtain ⟨n1,r1,q1,h2⟩:=au h1
 replace q1:r0=_:=q1;subst q1
 obtain ⟨n2,r2,q2,h3⟩:=au h2
 replace q2:r1=_:=q2;subst q2
 obtain ⟨n3,r3,q3,h4⟩:=au h3
 replace q3:r2=_:=q3;subst q3
 obtain ⟨d4,l4,r4,q4,e4,h5⟩:=bH h4
 replace q4:r3=_:=q4;subst q4
 obtain ⟨n5,r5,q5,h6⟩:=au h5
 replace q5:r4=_:=q5;subst q5
 obtain ⟨qe,qx⟩:=dL h6
 replace qe:r5=[]:=qe;subst qe;subst qx
 exact .cons (.same _) (.cons (.same _) (.cons (.same _) (.cons (.same _) (.cons e4 (.cons (.same _) (bg.nil))))))
theorem Pc {r:List I}{x:gq} (h:C1 r=some x):bg r (LO x):=by
 have h0:=h;unfold C1 at h0;clear h
 obtain ⟨n0,r0,q0,h1⟩:=au h0
 replace q0:r=_:=q0;subst q0
 obtain ⟨n1,r1,q1,h2⟩:=au h1
 replace q1:r0=_:=q1;subst q1
 obtain ⟨n2,r2,q2,h3⟩:=au h2
 replace q2:r1=_:=q2;subst q2
 obtain ⟨n3,r3,q3,h4⟩:=au h3
 replace q3:r2=_:=q3;subst q3
 obtain ⟨d4,l4,r4,q4,e4,h5⟩:=bH h4
 replace q4:r3=_:=q4;subst q4
 obtain ⟨n5,r5,q5,h6⟩:=au h5
 replace q5:r4=_:=q5;subst q5
 obtain ⟨d6,l6,r6,q6,e6,h7⟩:=bH h6
 replace q6:r5=_:=q6;subst q6
 obtain ⟨qe,qx⟩:=dL h7
 replace qe:r6=[]:=qe;subst qe;subst qx
 exact .cons (.same _) (.cons (.same _) (.cons (.same _) (.cons (.same _) (.cons e4 (.cons (.same _) (.cons e6 (bg.nil)))))))
theorem O5 {r:List I}{x:iw} (h:CQ r=some x):bg r (LG x):=by
 have h0:=h;unfold CQ at h0;clear h
 obtain ⟨n0,r0,q0,h1⟩:=au h0
 replace q0:r=_:=q0;subst q0
 obtain ⟨n1,r1,q1,h2⟩:=au h1
 replace q1:r0=_:=q1;subst q1
 obtain ⟨n2,r2,q2,h3⟩:=au h2
 replace q2:r1=_:=q2;subst q2
 obtain ⟨n3,r3,q3,h4⟩:=au h3
 replace q3:r2=_:=q3;subst q3
 obtain ⟨d4,l4,r4,q4,e4,h5⟩:=bH h4
 replace q4:r3=_:=q4;subst q4
 obtain ⟨n5,r5,q5,h6⟩:=au h5
 replace q5:r4=_:=q5;subst q5
 obtain ⟨d6,l6,r6,q6,e6,h7⟩:=bH h6
 replace q6:r5=_:=q6;subst q6
 obtain ⟨n7,r7,q7,h8⟩:=au h7
 replace q7:r6=_:=q7;subst q7
 obtain ⟨n8,r8,q8,h9⟩:=au h8
 replace q8:r7=_:=q8;subst q8
 obtain ⟨n9,r9,q9,fT⟩:=au h9
 replace q9:r8=_:=q9;subst q9
 obtain ⟨n10,dN,tU,iD⟩:=au fT
 replace tU:r9=_:=tU;subst tU
 obtain ⟨d11,l11,jC,Au,e11,jz⟩:=bH iD
 replace Au:dN=_:=Au;subst Au
 obtain ⟨n12,fX,Av,jm⟩:=au jz
 replace Av:jC=_:=Av;subst Av
 obtain ⟨d13,l13,jD,Aw,e13,gK⟩:=bH jm
 replace Aw:fX=_:=Aw;subst Aw
 obtain ⟨qe,qx⟩:=dL gK
 replace qe:jD=[]:=qe;subst qe;subst qx
 exact .cons (.same _) (.cons (.same _) (.cons (.same _) (.cons (.same _) (.cons e4 (.cons (.same _) (.cons e6 (.cons (.same _) (.cons (.same _) (.cons (.same _) (.cons (.same _) (.cons e11 (.cons (.same _) (.cons e13 (bg.nil))))))))))))))
theorem Ww {r:List I}{x:pC} (h:Lv r=some x):bg r (WK x):=by
 have h0:=h;unfold Lv at h0;clear h
 obtain ⟨n0,r0,q0,h1⟩:=au h0
 replace q0:r=_:=q0;subst q0
 obtain ⟨n1,r1,q1,h2⟩:=au h1
 replace q1:r0=_:=q1;subst q1
 obtain ⟨n2,r2,q2,h3⟩:=au h2
 replace q2:r1=_:=q2;subst q2
 obtain ⟨n3,r3,q3,h4⟩:=au h3
 replace q3:r2=_:=q3;subst q3
 obtain ⟨qe,qx⟩:=dL h4
 replace qe:r3=[]:=qe;subst qe;subst qx
 exact .cons (.same _) (.cons (.same _) (.cons (.same _) (.cons (.same _) (bg.nil))))
theorem SK {r:List I}{x:ax} (h:GR r=some x):bg r (Qh x):=by
 have h0:=h;unfold GR at h0;clear h
 obtain ⟨n0,r0,q0,h1⟩:=au h0
 replace q0:r=_:=q0;subst q0
 obtain ⟨qe,qx⟩:=dL h1
 replace qe:r0=[]:=qe;subst qe;subst qx
 exact .cons (.same _) (bg.nil)
theorem Pe {r:List I}{x:iI} (h:C3 r=some x):bg r (LQ x):=by
 have h0:=h;unfold C3 at h0;clear h
 obtain ⟨d0,l0,r0,q0,e0,h1⟩:=bH h0
 replace q0:r=_:=q0;subst q0
 obtain ⟨d1,l1,r1,q1,e1,h2⟩:=bH h1
 replace q1:r0=_:=q1;subst q1
 obtain ⟨d2,l2,r2,q2,e2,h3⟩:=bH h2
 replace q2:r1=_:=q2;subst q2
 obtain ⟨qe,qx⟩:=dL h3
 replace qe:r2=[]:=qe;subst qe;subst qx
 exact .cons e0 (.cons e1 (.cons e2 (bg.nil)))
theorem O4 {r:List I}{x:dv} (h:CP r=some x):bg r (LF x):=by
 have h0:=h;unfold CP at h0;clear h
 obtain ⟨n0,r0,q0,h1⟩:=acA h0
 replace q0:r=_:=q0;subst q0
 obtain ⟨n1,r1,q1,h2⟩:=au h1
 replace q1:r0=_:=q1;subst q1
 obtain ⟨n2,r2,q2,h3⟩:=au h2
 replace q2:r1=_:=q2;subst q2
 obtain ⟨n3,r3,q3,h4⟩:=HC h3
 replace q3:r2=_:=q3;subst q3
 obtain ⟨n4,r4,q4,h5⟩:=HC h4
 replace q4:r3=_:=q4;subst q4
 obtain ⟨qe,qx⟩:=dL h5
 replace qe:r4=[]:=qe;subst qe;subst qx
 exact .cons (.same _) (.cons (.same _) (.cons (.same _) (.cons (.same _) (.cons (.same _) (bg.nil)))))
theorem aao {r:List I}{x:BT} (h:SC r=some x):bg r (ac0 x):=by
 have h0:=h;unfold SC at h0;clear h
 obtain ⟨d0,l0,r0,q0,e0,h1⟩:=bH h0
 replace q0:r=_:=q0;subst q0
 obtain ⟨d1,l1,r1,q1,e1,h2⟩:=bH h1
 replace q1:r0=_:=q1;subst q1
 obtain ⟨d2,l2,r2,q2,e2,h3⟩:=bH h2
 replace q2:r1=_:=q2;subst q2
 obtain ⟨d3,l3,r3,q3,e3,h4⟩:=bH h3
 replace q3:r2=_:=q3;subst q3
 obtain ⟨d4,l4,r4,q4,e4,h5⟩:=bH h4
 replace q4:r3=_:=q4;subst q4
 obtain ⟨qe,qx⟩:=dL h5
 replace qe:r4=[]:=qe;subst qe;subst qx
 exact .cons e0 (.cons e1 (.cons e2 (.cons e3 (.cons e4 (bg.nil)))))
theorem cM:∀ (t:T) {r:List I}{x:den t},ew t r=some x→bg r (bj t x)
 |.int k,r,x,h=>by
  obtain ⟨n,r2,q,h2⟩:=au (show (tI k r).bind _=_ from h)
  obtain ⟨qe,qx⟩:=dL h2
  replace qe:r2=[]:=qe
  subst q;subst qe;subst qx;exact .cons (.same _) .nil
 |.bool,r,x,h=>by
  obtain ⟨n,r2,q,h2⟩:=HC (show (tB r).bind _=_ from h)
  obtain ⟨qe,qx⟩:=dL h2
  replace qe:r2=[]:=qe
  subst q;subst qe;subst qx;exact .cons (.same _) .nil
 |.str,r,x,h=>by
  obtain ⟨n,r2,q,h2⟩:=wP (show (tS r).bind _=_ from h)
  obtain ⟨qe,qx⟩:=dL h2
  replace qe:r2=[]:=qe
  subst q;subst qe;subst qx;exact .cons (.same _) .nil
 |.sl t,r,x,h=>by
  obtain ⟨d,l,r2,q,e,h2⟩:=bH (show (tL t r).bind _=_ from h)
  obtain ⟨qe,qx⟩:=dL h2
  replace qe:r2=[]:=qe
  subst q;subst qe;subst qx;exact .cons e .nil
 |.ptr t,r,x,h=>by rw[ve (fun h=>cM t h) (show tP (ew t) r=some x from h)];exact .cons (.same _) .nil
 |.se t,r,x,h=>amb (fun h=>cM t h) (show tCv (ew t) r=some x from h)
 |.nK f t,r,x,h=>by rw[ap2 (fun h=>cM t h) (show tC f (ew t) r=some x from h)];exact .cons (.same _) .nil
 |.zb f,r,x,h=>by rw[al7 (show tC0 f r=some x from h)];exact .cons (.same _) .nil
 |.err,r,x,h=>by rw[amc (show tEr r=some x from h)];exact .cons (.same _) .nil
 |.vr f t u v,r,x,h=>by rw[al9 (fun h=>cM t h) (fun h=>cM u h) (fun h=>cM v h) (show tC3 f (ew t) (ew u) (ew v) r=some x from h)];exact .cons (.same _) .nil
 |.qI f t u,r,x,h=>by rw[al8 (fun h=>cM t h) (fun h=>cM u h) (show tC2 f (ew t) (ew u) r=some x from h)];exact .cons (.same _) .nil
 |.rR f t,r,x,h=>by rw[ap3 (fun h=>cM t h) (show tM f (ew t) r=some x from h)];exact .cons (.same _) .nil
 |.Span,r,x,h=>SL h
 |.iH,r,x,h=>Pb h
 |.dt,r,x,h=>SI h
 |.aI,r,x,h=>Lu h
 |.jN,r,x,h=>SF h
 |.Closure,r,x,h=>Ja h
 |.bq,r,x,h=>O9 h
 |.aN,r,x,h=>O6 h
 |.aU,r,x,h=>I9 h
 |.fF,r,x,h=>Wv h
 |.aH,r,x,h=>SD h
 |.Path,r,x,h=>SG h
 |.cY,r,x,h=>SH h
 |.cd,r,x,h=>O3 h
 |.aw,r,x,h=>Lq h
 |.br,r,x,h=>O7 h
 |.eh,r,x,h=>SM h
 |.Driver,r,x,h=>Lm h
 |.dT,r,x,h=>Jb h
 |.bb,r,x,h=>O8 h
 |.bR,r,x,h=>O2 h
 |.Region,r,x,h=>Lp h
 |.fJ,r,x,h=>Jc h
 |.ff,r,x,h=>SE h
 |.aS,r,x,h=>Pd h
 |.bI,r,x,h=>Ll h
 |.bU,r,x,h=>Jd h
 |.bF,r,x,h=>Pa h
 |.iB,r,x,h=>SJ h
 |.gq,r,x,h=>Pc h
 |.iw,r,x,h=>O5 h
 |.pC,r,x,h=>Ww h
 |.ax,r,x,h=>SK h
 |.iI,r,x,h=>Pe h
 |.dv,r,x,h=>O4 h
 |.BT,r,x,h=>aao h
mutual
def I.toD (h:Nat→Nat):I→D
 |.int k n=>.int k n
 |.bool b=>.bool b
 |.str s=>.str s
 |.agg l=>.agg (I.al h l)
 |.bn l=>.bn (I.al h l)
 |.sl t l=>AV t l
 |.ft t l=>RJ t l
 |.nil=>.nil
 |.rp l o=>.rp (I.al h l) o
 |.bx s g o=>.bx s (h s+g) o
 |.mb s g T=>.mb s (h s+g) T
 |.os s g=>.os s (h s+g)
 |.op s g z i o=>.op s (h s+g) z i o
 |.ow s g z a m=>.ow s (h s+g) z a m
 |.fn f c=>.fn f (I.al h c)
 |.yl l=>.yl (h l)
 |.mf f c=>.mf f (I.al h c)
 |.one=>.one
 |.lk c=>.lk c
 |.er b=>.lk (Nv b)
 |.undef=>.undef
def I.al (h:Nat→Nat):List I→List D
 |[]=>[]
 |d::l=>d.toD h::I.al h l
end
theorem bd (h:Nat→Nat):∀ (t:T) (x:den t),I.al h (bj t x)=bN t x:=by
 intro t
 induction t with
 |ptr t ih=>intro x;show [D.rp (I.al h (bj t x)) 0]=_;rw[ih];rfl
 |se t ih=>intro x;show [D.fn x.1 [D.rp (I.al h (bj t x.2)) 0]]=_;rw[ih];rfl
 |nK f t ih=>intro x;show [D.fn f [D.rp (I.al h (bj t x)) 0]]=_;rw[ih];rfl
 |vr f t u v Fq z7 ih3=>intro x;show [D.fn f [D.rp (I.al h (bj t x.1)) 0,D.rp (I.al h (bj u x.2.1)) 0,D.rp (I.al h (bj v x.2.2)) 0]]=_;rw[Fq,z7,ih3];rfl
 |qI f t u Fq z7=>intro x;show [D.fn f [D.rp (I.al h (bj t x.1)) 0,D.rp (I.al h (bj u x.2)) 0]]=_;rw[Fq,z7];rfl
 |rR f t ih=>intro x;show [D.mf f [D.agg (I.al h (bj t x))]]=_;rw[ih];rfl
 |dT =>
  intro x
  obtain ⟨a,b,c⟩:=x
  cases c<;>rfl
 |_=>intro x;rfl
theorem nq (x:Span):ab (iP x):=ab.cons (.int _ _) (ab.cons (.int _ _) (ab.nil))
theorem Y2 (x:iH):ab (zr x):=ab.cons (.int _ _) (ab.cons (.int _ _) (ab.cons (.int _ _) (ab.nil)))
theorem xN (x:dt):ab (oD x):=ab.cons (.int _ _) (ab.cons (.int _ _) (ab.cons (.int _ _) (ab.cons (.int _ _) (ab.cons (.int _ _) (ab.nil)))))
theorem Vf (x:aI):ab (xo x):=ab.cons (.sl _ _ _ fun i _ d hd=>xN _ d hd) (ab.cons (.int _ _) (ab.cons (.int _ _) (ab.cons (.int _ _) (ab.nil))))
theorem abR (x:jN):ab (LB x):=ab.cons (.int _ _) (ab.cons (.int _ _) (ab.cons (.int _ _) (ab.cons (.int _ _) (ab.cons (.int _ _) (ab.nil)))))
theorem Pn (x:Closure):ab (B7 x):=ab.cons (.int _ _) (ab.cons (.int _ _) (ab.cons (.int _ _) (ab.nil)))
theorem nk (x:bq):ab (iC x):=ab.cons (.int _ _) (ab.cons (.int _ _) (ab.nil))
theorem YY (x:aN):ab (zo x):=ab.cons (.int _ _) (ab.cons (.int _ _) (ab.cons (.sl _ _ _ fun i _ d hd=>nk _ d hd) (ab.cons (.sl _ _ _ fun i _ d hd=>nk _ d hd) (ab.cons (.int _ _) (ab.cons (.int _ _) (ab.cons (.int _ _) (ab.cons (.int _ _) (ab.cons (.int _ _) (ab.cons (.int _ _) (ab.cons (.int _ _) (ab.nil)))))))))))
theorem oi (x:aU):ab (jl x):=ab.cons (.str _) (ab.cons (.int _ _) (ab.cons (.int _ _) (ab.cons (.int _ _) (ab.cons (.int _ _) (ab.cons (.int _ _) (ab.nil))))))
theorem wC (x:fF):ab (o8 x):=ab.cons (.int _ _) (ab.cons (.int _ _) (ab.cons (.int _ _) (ab.cons (.int _ _) (ab.nil))))
theorem abQ (x:aH):ab (C9 x):=ab.cons (.sl _ _ _ fun i _ d hd=>oi _ d hd) (ab.cons (.sl _ _ _ fun i _ d hd=>wC _ d hd) (ab.nil))
theorem xL (x:Path):ab (oB x):=ab.cons (.int _ _) (ab.cons (.int _ _) (ab.cons (.int _ _) (ab.cons (.int _ _) (ab.cons (.int _ _) (ab.nil)))))
theorem xM (x:cY):ab (oC x):=ab.cons (.int _ _) (ab.cons (.int _ _) (ab.cons (.int _ _) (ab.cons (.int _ _) (ab.cons (.int _ _) (ab.cons (.int _ _) (ab.cons (.sl _ _ _ fun i _ d hd=>nq _ d hd) (ab.nil)))))))
theorem uR (x:cd):ab (mL x):=ab.cons (.int _ _) (ab.cons (.int _ _) (ab.cons (.int _ _) (ab.nil)))
theorem Ve (x:aw):ab (xn x):=ab.cons (.int _ _) (ab.cons (.sl _ _ _ fun i _ d hd=>xL _ d hd) (ab.cons (.sl _ _ _ fun i _ d hd=>xM _ d hd) (ab.cons (.sl _ _ _ fun i _ d hd=>nq _ d hd) (ab.cons (.sl _ _ _ fun i _ d hd=>uR _ d hd) (ab.nil)))))
theorem YZ (x:br):ab (zp x):=ab.cons (.int _ _) (ab.cons (.int _ _) (ab.cons (.int _ _) (ab.cons (.int _ _) (ab.nil))))
theorem xO (x:eh):ab (oF x):=ab.cons (.int _ _) (ab.cons (.int _ _) (ab.cons (.int _ _) (ab.cons (.int _ _) (ab.nil))))
theorem FU (x:Driver):ab (pI x):=ab.cons (.str _) (ab.cons (.int _ _) (ab.cons (.sl _ _ _ fun i _ d hd=>xO _ d hd) (ab.nil)))
theorem agM (l:List eh):Pure (nsT l):=by
 cases l with
 |nil=>exact .nil
 |cons a m=>exact .sl _ _ _ fun i _ d hd=>xO _ d hd
theorem Cy (x:dT):ab (vv x):=ab.cons (.str _) (ab.cons (.int _ _) (ab.cons (agM _) (ab.nil)))
theorem Y0 (x:bb):ab (zq x):=ab.cons (.int _ _) (ab.cons (.int _ _) (ab.nil))
theorem YV (x:bR):ab (zn x):=ab.cons (.int _ _) (ab.cons (.int _ _) (ab.nil))
theorem Vd (x:Region):ab (pJ x):=ab.cons (.sl _ _ _ fun i _ d hd=>xN _ d hd) (ab.cons (.int _ _) (ab.cons (.int _ _) (ab.cons (.int _ _) (ab.cons (.int _ _) (ab.cons (.int _ _) (ab.cons (.sl _ _ _ fun i _ d hd=>nk _ d hd) (ab.cons (.sl _ _ _ fun i _ d hd=>nk _ d hd) (ab.cons (.int _ _) (ab.cons (.int _ _) (ab.cons (.int _ _) (ab.cons (.int _ _) (ab.cons (.int _ _) (ab.cons (.int _ _) (ab.cons (.int _ _) (ab.cons (.int _ _) (ab.cons (.int _ _) (ab.cons (.int _ _) (ab.cons (.int _ _) (ab.cons (.sl _ _ _ fun i _ d hd=>oi _ d hd) (ab.cons (.sl _ _ _ fun i _ d hd=>wC _ d hd) (ab.cons (.int _ _) (ab.cons (.sl _ _ _ fun i _ d hd=>xL _ d hd) (ab.cons (.sl _ _ _ fun i _ d hd=>xM _ d hd) (ab.cons (.sl _ _ _ fun i _ d hd=>nq _ d hd) (ab.cons (.sl _ _ _ fun i _ d hd=>uR _ d hd) (ab.cons (.int _ _) (ab.cons (.int _ _) (ab.cons (.int _ _) (ab.cons (.int _ _) (ab.cons (.sl _ _ _ fun i _ d hd=>FU _ d hd) (ab.cons (.int _ _) (ab.cons (.int _ _) (ab.cons (.int _ _) (ab.cons (.int _ _) (ab.nil)))))))))))))))))))))))))))))))))))
theorem Po (x:fJ):ab (B8 x):=ab.cons (.sl _ _ _ fun i _ d hd=>xN _ d hd) (ab.cons (.int _ _) (ab.cons (.int _ _) (ab.cons (.int _ _) (ab.cons (.int _ _) (ab.cons (.int _ _) (ab.cons (.sl _ _ _ fun i _ d hd=>nk _ d hd) (ab.cons (.sl _ _ _ fun i _ d hd=>nk _ d hd) (ab.cons (.int _ _) (ab.cons (.int _ _) (ab.cons (.int _ _) (ab.cons (.int _ _) (ab.cons (.int _ _) (ab.cons (.int _ _) (ab.cons (.int _ _) (ab.cons (.int _ _) (ab.cons (.int _ _) (ab.cons (.int _ _) (ab.cons (.int _ _) (ab.cons (.sl _ _ _ fun i _ d hd=>oi _ d hd) (ab.cons (.sl _ _ _ fun i _ d hd=>wC _ d hd) (ab.cons (.int _ _) (ab.cons (.sl _ _ _ fun i _ d hd=>xL _ d hd) (ab.cons (.sl _ _ _ fun i _ d hd=>xM _ d hd) (ab.cons (.sl _ _ _ fun i _ d hd=>nq _ d hd) (ab.cons (.sl _ _ _ fun i _ d hd=>uR _ d hd) (ab.cons (.int _ _) (ab.cons (.int _ _) (ab.cons (.int _ _) (ab.cons (.int _ _) (ab.cons (.sl _ _ _ fun i _ d hd=>Cy _ d hd) (ab.cons (.int _ _) (ab.cons (.int _ _) (ab.cons (.int _ _) (ab.cons (.int _ _) (ab.nil)))))))))))))))))))))))))))))))))))
theorem oN (x:ff):ab (mM x):=ab.cons (.int _ _) (ab.cons (.int _ _) (ab.nil))
theorem IJ (x:aS):ab (zt x):=ab.cons (.int _ _) (ab.cons (.int _ _) (ab.cons (.int _ _) (ab.cons (.int _ _) (ab.cons (.sl _ _ _ fun i _ d hd=>oN _ d hd) (ab.nil)))))
theorem Vc (x:bI):ab (Eu x):=ab.cons (.int _ _) (ab.cons (.int _ _) (ab.cons (.int _ _) (ab.cons (.sl _ _ _ fun i _ d hd=>IJ _ d hd) (ab.nil))))
theorem Pp (x:bU):ab (B9 x):=ab.cons (.int _ _) (ab.cons (.int _ _) (ab.cons (.int _ _) (ab.cons (.int _ _) (ab.cons (.int _ _) (ab.cons (.int _ _) (ab.cons (.sl _ _ _ fun i _ d hd=>oN _ d hd) (ab.nil)))))))
theorem Y1 (x:bF):ab (H5 x):=ab.cons (.str _) (ab.cons (.int _ _) (ab.cons (.sl _ _ _ fun i _ d hd=>xO _ d hd) (ab.cons (.int _ _) (ab.cons (.int _ _) (ab.cons (.int _ _) (ab.cons (.int _ _) (ab.nil)))))))
theorem abS (x:iB):ab (LC x):=ab.cons (.int _ _) (ab.cons (.int _ _) (ab.cons (.int _ _) (ab.cons (.int _ _) (ab.cons (.sl _ _ _ fun i _ d hd=>oN _ d hd) (ab.cons (.int _ _) (ab.nil))))))
theorem Y3 (x:gq):ab (H6 x):=ab.cons (.int _ _) (ab.cons (.int _ _) (ab.cons (.int _ _) (ab.cons (.int _ _) (ab.cons (.sl _ _ _ fun i _ d hd=>oN _ d hd) (ab.cons (.int _ _) (ab.cons (.sl _ _ _ fun i _ d hd=>nq _ d hd) (ab.nil)))))))
theorem YX (x:iw):ab (H4 x):=ab.cons (.int _ _) (ab.cons (.int _ _) (ab.cons (.int _ _) (ab.cons (.int _ _) (ab.cons (.sl _ _ _ fun i _ d hd=>oN _ d hd) (ab.cons (.int _ _) (ab.cons (.sl _ _ _ fun i _ d hd=>nq _ d hd) (ab.cons (.int _ _) (ab.cons (.int _ _) (ab.cons (.int _ _) (ab.cons (.int _ _) (ab.cons (.sl _ _ _ fun i _ d hd=>oN _ d hd) (ab.cons (.int _ _) (ab.cons (.sl _ _ _ fun i _ d hd=>nq _ d hd) (ab.nil))))))))))))))
theorem agN (x:pC):ab (P9 x):=ab.cons (.int _ _) (ab.cons (.int _ _) (ab.cons (.int _ _) (ab.cons (.int _ _) (ab.nil))))
theorem abT (x:ax):ab (LD x):=ab.cons (.int _ _) (ab.nil)
theorem Y4 (x:iI):ab (H7 x):=ab.cons (.sl _ _ _ fun i _ d hd=>(fun y=>ab.cons (.int _ _) ab.nil) _ d hd) (ab.cons (.sl _ _ _ fun i _ d hd=>(fun y=>ab.cons (.int _ _) ab.nil) _ d hd) (ab.cons (.sl _ _ _ fun i _ d hd=>(fun y=>ab.cons (.int _ _) ab.nil) _ d hd) (ab.nil)))
theorem YW (x:dv):ab (H3 x):=ab.cons (.fn _ _ (ab.cons (.rp _ _ (ab.cons (.int _ _) ab.nil)) ab.nil)) (ab.cons (.int _ _) (ab.cons (.int _ _) (ab.cons (.bool _) (ab.cons (.bool _) (ab.nil)))))
theorem alg (x:BT):ab (WG x):=ab.cons (.sl _ _ _ fun i _ d hd=>oi _ d hd) (ab.cons (.sl _ _ _ fun i _ d hd=>wC _ d hd) (ab.cons (.sl _ _ _ fun i _ d hd=>(fun y=>ab.cons (.int _ _) ab.nil) _ d hd) (ab.cons (.sl _ _ _ fun i _ d hd=>(fun y=>ab.cons (.int _ _) ab.nil) _ d hd) (ab.cons (.sl _ _ _ fun i _ d hd=>(fun y=>ab.cons (.int _ _) ab.nil) _ d hd) (ab.nil)))))
theorem cN:∀ (t:T) (x:den t),ab (bN t x)
 |.int k,x=>ab.cons (.int _ _) ab.nil
 |.bool,x=>ab.cons (.bool _) ab.nil
 |.str,x=>ab.cons (.str _) ab.nil
 |.sl t,x=>ab.cons (.sl _ _ _ fun i _ d hd=>cN t _ d hd) ab.nil
 |.ptr t,x=>ab.cons (.rp _ _ (cN t x)) ab.nil
 |.se t,x=>ab.cons (.fn _ _ (ab.cons (.rp _ _ (cN t x.2)) ab.nil)) ab.nil
 |.nK f t,x=>ab.cons (.fn _ _ (ab.cons (.rp _ _ (cN t x)) ab.nil)) ab.nil
 |.zb f,x=>ab.cons (.fn _ _ ab.nil) ab.nil
 |.err,x=>ab.cons (.lk _) ab.nil
 |.vr f t u v,x=>ab.cons (.fn _ _ (ab.cons (.rp _ _ (cN t x.1)) (ab.cons (.rp _ _ (cN u x.2.1)) (ab.cons (.rp _ _ (cN v x.2.2)) ab.nil)))) ab.nil
 |.qI f t u,x=>ab.cons (.fn _ _ (ab.cons (.rp _ _ (cN t x.1)) (ab.cons (.rp _ _ (cN u x.2)) ab.nil))) ab.nil
 |.rR f t,x=>ab.cons (.mf _ _ (ab.cons (.agg _ (cN t x)) ab.nil)) ab.nil
 |.Span,x=>nq x
 |.iH,x=>Y2 x
 |.dt,x=>xN x
 |.aI,x=>Vf x
 |.jN,x=>abR x
 |.Closure,x=>Pn x
 |.bq,x=>nk x
 |.aN,x=>YY x
 |.aU,x=>oi x
 |.fF,x=>wC x
 |.aH,x=>abQ x
 |.Path,x=>xL x
 |.cY,x=>xM x
 |.cd,x=>uR x
 |.aw,x=>Ve x
 |.br,x=>YZ x
 |.eh,x=>xO x
 |.Driver,x=>FU x
 |.dT,x=>Cy x
 |.bb,x=>Y0 x
 |.bR,x=>YV x
 |.Region,x=>Vd x
 |.fJ,x=>Po x
 |.ff,x=>oN x
 |.aS,x=>IJ x
 |.bI,x=>Vc x
 |.bU,x=>Pp x
 |.bF,x=>Y1 x
 |.iB,x=>abS x
 |.gq,x=>Y3 x
 |.iw,x=>YX x
 |.pC,x=>agN x
 |.ax,x=>abT x
 |.iI,x=>Y4 x
 |.dv,x=>YW x
 |.BT,x=>alg x
end Go.Ab
namespace Go.Ab
open Go Go.RowKit
set_option linter.all false
def XB:Nat:=900000000
def gM (q:Nat→Nat):Nat→Nat→Nat
 |0=>fun _=>0
 |n+1=>fun s=>bif Nat.beq s (q n) then 1 else gM q n s
theorem k9 {q:Nat→Nat}:∀ {n i:Nat},i<n→gM q n (q i)=1
 |n+1,i,h=>by
  simp only[gM]
  cases hb:Nat.beq (q i) (q n) with
  |true=>rfl
  |false =>
   have cx:i≠n:=fun e=>by rw[e,Nat.beq_refl]at hb;cases hb
   exact k9 (by omega)
def xJ (q:Nat→Nat) (os:Nat→Own):Nat→Nat→Own
 |0=>fun _=>.none
 |n+1=>fun s=>bif Nat.beq s (q n) then os n else xJ q os n s
theorem BE {q:Nat→Nat}{os:Nat→Own}:∀ {n:Nat}{s:Nat},(∃ i,i<n∧s=q i∧xJ q os n s=os i)∨xJ q os n s=.none
 |0,s=>.inr rfl
 |n+1,s=>by
  simp only[xJ]
  cases hb:Nat.beq s (q n) with
  |true=>exact .inl ⟨n,Nat.lt_succ_self _,Nat.eq_of_beq_eq_true hb,rfl⟩
  |false =>
   rcases @BE q os n s with ⟨i,h1,h2,h3⟩|h
   ·exact .inl ⟨i,by omega,h2,h3⟩
   ·exact .inr h
theorem Ro {q:Nat→Nat}{os:Nat→Own}:∀ {n i:Nat},(∀ i j,i<n→j<n→q i=q j→i=j)→i<n→xJ q os n (q i)=os i
 |n+1,i,hq,h=>by
  simp only[xJ]
  cases hb:Nat.beq (q i) (q n) with
  |true=>rw[hq i n h (Nat.lt_succ_self _) (Nat.eq_of_beq_eq_true hb)];rfl
  |false =>
   have cx:i≠n:=fun e=>by rw[e,Nat.beq_refl]at hb;cases hb
   exact Ro (fun a b ha hb=>hq a b (by omega) (by omega)) (by omega)
mutual
inductive Rn (n:Nat) (p g p' g':Nat→Nat):D→D→Prop
 |pure (d:D):Pure d→Rn n p g p' g' d d
 |bx (i o:Nat):i<n→Rn n p g p' g' (.bx (p i) (g i) o) (.bx (p' i) (g' i) o)
 |os (i:Nat):i<n→Rn n p g p' g' (.os (p i) (g i)) (.os (p' i) (g' i))
 |mb (i:Nat) (T:TypeId):i<n→Rn n p g p' g' (.mb (p i) (g i) T) (.mb (p' i) (g' i) T)
 |agg (l l':List D):fZ n p g p' g' l l'→Rn n p g p' g' (.agg l) (.agg l')
 |fn (f:FuncId) (c c':List D):fZ n p g p' g' c c'→Rn n p g p' g' (.fn f c) (.fn f c')
inductive fZ (n:Nat) (p g p' g':Nat→Nat):List D→List D→Prop
 |nil:fZ n p g p' g' [] []
 |cons (d d':D) (l l':List D):Rn n p g p' g' d d'→fZ n p g p' g' l l'→fZ n p g p' g' (d::l) (d'::l')
end
section
variable {κ aA:Nat→Nat→Option Value}{γ cU:Nat→Nat}{sv aQ:Nat→Value}{n:Nat}{p g p' g':Nat→Nat}
mutual
theorem Rn.rep (bQ:∀ b o v,κ b o=some v→aA b o=some v) (h1:∀ i,i<n→γ (p i)=g i) (h2:∀ i,i<n→cU (p' i)=g' i) (h3:∀ i,i<n→sv (p i)=aQ (p' i)):∀ {d d':D}{v:Value},Rn n p g p' g' d d'→aW κ γ sv d v→aW aA cU aQ d' v
 |_,_,_,.pure d hd,hr=>hr.pure bQ hd
 |_,_,_,.bx i o hi,hr=>by
  cases hr with
  |bx _ _ _ _ a b c =>
   obtain ⟨b1,e1,e2⟩:=b (h1 i hi).symm
   exact .bx _ _ _ _ (Nat.le_of_eq (h2 i hi).symm) (fun _=>⟨b1,by rw[← h3 i hi];exact e1,e2⟩) c
 |_,_,_,.os i hi,hr=>by
  cases hr with
  |os _ _ _ a b c=>exact .os _ _ _ (Nat.le_of_eq (h2 i hi).symm) (fun _=>by rw[← h3 i hi];exact b (h1 i hi).symm) c
 |_,_,_,.mb i T hi,hr=>by
  cases hr with
  |Np=>exact .Np _ _ _
  |mb _ _ _ _ a b c=>exact .mb _ _ _ _ (Nat.le_of_eq (h2 i hi).symm) (fun _=>by rw[← h3 i hi];exact b (h1 i hi).symm) c
 |_,_,_,.agg l l' hl,hr=>by
  cases hr with
  |agg _ vs hv=>exact .agg _ _ (fZ.rep bQ h1 h2 h3 hl hv)
 |_,_,_,.fn f c c' hl,hr=>by
  cases hr with
  |fn _ _ vs hv=>exact .fn _ _ _ (fZ.rep bQ h1 h2 h3 hl hv)
theorem fZ.rep (bQ:∀ b o v,κ b o=some v→aA b o=some v) (h1:∀ i,i<n→γ (p i)=g i) (h2:∀ i,i<n→cU (p' i)=g' i) (h3:∀ i,i<n→sv (p i)=aQ (p' i)):∀ {l l':List D}{vs:List Value},fZ n p g p' g' l l'→aD κ γ sv l vs→aD aA cU aQ l' vs
 |_,_,_,.nil,hr=>by cases hr;exact .nil
 |_,_,_,.cons d d' l l' a b,hr=>by
  cases hr with
  |cons _ _ _ _ r1 r2=>exact .cons _ _ _ _ (Rn.rep bQ h1 h2 h3 a r1) (fZ.rep bQ h1 h2 h3 b r2)
end
end
theorem agY {n:Nat}{p g p' g':Nat→Nat}{d d':D} (h:Rn n p g p' g' d d'):d'.iY=d.iY:=by cases h<;>rfl
theorem DK {n:Nat}{p g p' g':Nat→Nat}:∀ {l l':List D},fZ n p g p' g' l l'→aY l=true→aY l'=true
 |_,_,.nil,h=>h
 |_,_,.cons d d' l l' a b,h=>by
  simp only[aY,Bool.and_eq_true]at h ⊢
  exact⟨by rw[agY a];exact h.1,DK b h.2⟩
theorem aon {n:Nat}{p g p' g':Nat→Nat}{l l':List D} (h:fZ n p g p' g' l l'):ph l'=ph l:=by
 cases h with
 |nil=>rfl
 |cons d d' l l' a b=>cases a with
  |pure _ hd=>cases hd<;>rfl
  |_=>rfl
theorem agX {n:Nat}{p g p' g':Nat→Nat}{l l':List D}{T:TypeId} (h:fZ n p g p' g' l l') (e:BX l T):BX l' T:=⟨DK h e.1,fun T0 e0=>e.2 T0 ((aon h).symm.trans e0)⟩
inductive gn (n:Nat) (p g p' g':Nat→Nat):Own→Own→Prop
 |box (l l':List D):fZ n p g p' g' l l'→gn n p g p' g' (.box l) (.box l')
 |arr (E z m:Nat) (f f':Nat→List D):(∀ i,i<m→fZ n p g p' g' (f i) (f' i))→gn n p g p' g' (.arr E z m f) (.arr E z m f')
 |none:gn n p g p' g' .none .none
theorem ab3 {n:Nat}{p g p' g':Nat→Nat}:∀ {l:List D},ab l→fZ n p g p' g' l l
 |[],_=>.nil
 |d::l,h=>.cons _ _ _ _ (.pure _ (h d (List.mem_cons_self ..))) (ab3 fun x hx=>h x (List.mem_cons_of_mem _ hx))
theorem gn.Z7 {n:Nat}{p g p' g':Nat→Nat} (E z m:Nat) (f:Nat→List D) (h:∀ i,i<m→ab (f i)):gn n p g p' g' (.arr E z m f) (.arr E z m f):=.arr _ _ _ _ _ fun i hi=>ab3 (h i hi)
theorem Ry {n:Nat}{p g p' g':Nat→Nat}:∀ {l l':List D},fZ n p g p' g' l l'→l'.length=l.length
 |_,_,.nil=>rfl
 |_,_,.cons _ _ _ _ _ b=>by simp[Ry b]
theorem gn.owns {κ aA:Nat→Nat→Option Value}{γ cU:Nat→Nat}{sv aQ:Nat→Value}{n:Nat}{p g p' g':Nat→Nat}{w:World} (bQ:∀ b o v,κ b o=some v→aA b o=some v) (h1:∀ i,i<n→γ (p i)=g i) (h2:∀ i,i<n→cU (p' i)=g' i) (h3:∀ i,i<n→sv (p i)=aQ (p' i)) {s s':Nat} (hs:sv s=aQ s') {base acV:Nat}{o o':Own} (hb:∀ E z m f b,o=.arr E z m f→aL o (sv s)=some b→acV≤b) (h:gn n p g p' g' o o') (ho:fB base κ γ sv w s o):fB acV aA cU aQ w s' o':=by
 cases h with
 |box l l' hl =>
  obtain ⟨b,T,cs,e1,e2,e3,e4⟩:=ho
  exact⟨b,T,cs,by rw[← hs];exact e1,e2,hl.rep bQ h1 h2 h3 e3,agX hl e4⟩
 |arr E z m f f' hf =>
  obtain ⟨xs,e1,e2,e3,e4⟩:=ho
  refine ⟨xs,?_,fun i hi=>by rw[Ry (hf i hi)];exact e2 i hi,fun i hi=>DK (hf i hi) (e3 i hi),fun i hi=>(hf i hi).rep bQ h1 h2 h3 (e4 i hi)⟩
  rw[← hs]
  refine ⟨e1.1,?_⟩
  rcases e1.2 with hn|⟨g,off,cap,cur,q1,q2,rest⟩
  ·exact .inl hn
  ·exact .inr ⟨g,off,cap,cur,q1,hb E z m f g rfl (by rw[q1];rfl),rest⟩
 |none=>trivial
theorem gn.aL {n:Nat}{p g p' g':Nat→Nat}{o o':Own} (h:gn n p g p' g' o o') (v:Value):Ab.aL o' v=Ab.aL o v:=by
 cases h with
 |box=>cases v with
  |pointer a=>cases a<;>rfl
  |slice a _ _=>cases a<;>rfl
  |map a=>cases a<;>rfl
  |_=>rfl
 |arr=>cases v with
  |pointer a=>cases a<;>rfl
  |slice a _ _=>cases a<;>rfl
  |map a=>cases a<;>rfl
  |_=>rfl
 |none=>rfl
theorem agK {base:Nat}{κ:Nat→Nat→Option Value}{γ:Nat→Nat}{sv:Nat→Value}{w:World}{s:Nat}{E z m:Nat}{f:Nat→List D} (h:fB base κ γ sv w s (.arr E z m f)):∀ b,aL (.arr E z m f) (sv s)=some b→base≤b:=fun b hb=>by
 obtain ⟨xs,e1,_⟩:=h
 rcases e1.2 with ⟨hv,_⟩|⟨g,off,cap,cur,hv,dj,_⟩
 ·rw[hv]at hb;cases hb
 ·rw[hv]at hb;simp only[aL,Option.some.injEq]at hb;subst hb;exact dj
inductive BY:Own→Own→Prop
 |box (l l':List D):BY (.box l) (.box l')
 |arr (E z m:Nat) (f:Nat→List D) (E' z' m':Nat) (f':Nat→List D):BY (.arr E z m f) (.arr E' z' m' f')
 |gone (o:Own):BY o .none
theorem BY.aL {o o':Own} (h:BY o o') {v:Value}{b:Nat} (hb:Ab.aL o' v=some b):Ab.aL o v=some b:=by
 cases h with
 |gone=>cases hb
 |_ =>
  rw[← hb]
  cases v with
  |pointer a=>cases a<;>rfl
  |slice a _ _=>cases a<;>rfl
  |map a=>cases a<;>rfl
  |_=>rfl
structure rG (n:Nat) (bs:Nat→Option Nat) (w w':World):Prop where
 os:w'.os=w.os
 tape:w'.tape=w.tape
 output:w'.output=w.output
 size:w.heap.size≤w'.heap.size
 block:∀ k,k<w.heap.size→(∀ i,i<n→bs i≠some k)→w'.heap[k]?=w.heap[k]?
theorem rG.refl (n:Nat) (bs:Nat→Option Nat) (w:World):rG n bs w w:=⟨rfl,rfl,rfl,Nat.le_refl _,fun _ _ _=>rfl⟩
def one:Nat→Nat:=fun _=>1
structure jh (Z:Seat) (f:FuncId) (n:Nat) (q:Nat→Nat) (os fH:Nat→Own) (A:List D) (R:D):Prop where
 Ob:Rn n q one q one R R
 kind:∀ i,i<n→BY (os i) (fH i)
 body:gD Z.P f
 calls:∀ (w:World) (κ:Nat→Nat→Option Value) (sv:Nat→Value) (args:List Value),(∀ i j b,i<n→j<n→aL (os i) (sv (q i))=some b→aL (os j) (sv (q j))=some b→i=j)→Fits κ w→(∀ i b,i<n→aL (os i) (sv (q i))=some b→∀ o,κ b o=none)→iA Z κ w →
  (∀ i,i<n→fB 0 κ (gM q n) sv w (q i) (os i))→aD κ (gM q n) sv A args →
  Calls Z.P f args.toArray w fun e w'=>∃ v,e=.returned v∧aW (fp κ w w') (gM q n) sv R v∧(∀ i,i<n→fB 0 (fp κ w w') (gM q n) sv w' (q i) (fH i))∧rG n (fun i=>aL (os i) (sv (q i))) w w'
def Ah (w0:World) (n:Nat) (bs:Nat→Option Nat) (M:Nat→Prop) (w:World):Prop:=rG n bs w0 w∧∀ k,M k→w0.heap.size≤k∨∃ i,i<n∧bs i=some k
theorem abk (w0:World) (n:Nat) (bs:Nat→Option Nat):∀ M w w',Ah w0 n bs M w→Step M w w'→Ah w0 n bs (fun k=>M k∨w.heap.size≤k) w':=fun M w w' h hs =>
 ⟨⟨hs.os.trans h.1.os,hs.tape.trans h.1.tape,hs.output.trans h.1.output,Nat.le_trans h.1.size hs.size,fun k hk he =>
  (hs.block k (Nat.lt_of_lt_of_le hk h.1.size) (fun hm=>by
   rcases h.2 k hm with h8|⟨i,h8,h9⟩
   ·omega
   ·exact he i h8 h9)).trans (h.1.block k hk he)⟩,
  fun k hk=>by
   rcases hk with hk|hk
   ·exact h.2 k hk
   ·exact .inl (Nat.le_trans h.1.size hk)⟩
theorem UC {w0:World}{n:Nat}{bs:Nat→Option Nat}:∀ M w w' D,Ah w0 n bs M w→w.grownBy w' (some D)→w0.heap.size≤D→Ah w0 n bs M w':=fun M w w' D h1 hg hD =>
 ⟨⟨hg.os.trans h1.1.os,hg.tape.trans h1.1.tape,hg.output.trans h1.1.output,Nat.le_trans h1.1.size hg.size,fun k hk he =>
  (hg.block k (Nat.lt_of_lt_of_le hk h1.1.size) (fun e=>by simp only[Option.some.injEq]at e;omega)).trans (h1.1.block k hk he)⟩,h1.2⟩
def Ctx.BA (Z:Seat) (nt:Nat) (w0:World) (fg:Nat→Nat→Option Value) (n:Nat) (q:Nat→Nat) (bs:Nat→Option Nat) (sv:Nat→Value):Ctx:=⟨Z,nt,w0,fg,none,fun b=>∃ i,i<n∧bs i=some b,fun _ _=>none,gM q n,sv,fun _=>False,false,none,Ah w0 n bs,abk w0 n bs,fun M w h g _ _ hk _ he hr=>hr.eq (h.1.block g hk (fun i hi e=>he ⟨i,hi,e⟩)),fun s=>Nat.ble XB s⟩
def St.je (n:Nat) (q:Nat→Nat) (os:Nat→Own) (A:List D):St:=⟨fun i=>match nth A i with|some d=>d|none=>.undef,gM q n,xJ q os n⟩
def wW (o o':Own):Prop:=(∀ v,aL o v=aL o' v)∧∀ base κ γ sv w s,fB base κ γ sv w s o→fB base κ γ sv w s o'
section
variable {X:Ctx}{Q:Exit→St→Prop}{S:St}{ops:Array Oper}{o:Oper}{rest:List Oper}
end
end Go.Ab
namespace Go.Ab
open Go Go.RowKit
set_option linter.all false
section
variable {X:Ctx}{Q:Exit→St→Prop}{S S' S0:St}{ops:Array Oper}{o:Oper}
end
end Go.Ab
