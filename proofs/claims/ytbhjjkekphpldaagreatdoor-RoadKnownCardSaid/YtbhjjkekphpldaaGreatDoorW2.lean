/- Walks by computing: what each function of the program that the laws reach gives for what it gets, as plain Lean, and that it is so; without a condition but those that stand in each theorem. -/
import Derived.Shelf.Abstract
import Derived.Test.YtbhjjkekphpldaaGreatDoorW1
set_option linter.all false
namespace Go.Ab
open Go Go.RowKit
section
variable {X:Ctx}{Q:Exit→St→Prop}{S S' S'':St}{kr kp:List Nat}{rs:List (Nat×D)}{gs:List (Nat×Nat)}{os:List (Nat×Own)}
end
def fieldOk (P:Program) (f:Field):D→Bool
 | .int _ _ => f.name != "_" && (match P.underlying f.type with | some (.int _) => true | _ => false)
 | .bool _ => f.name != "_" && (match P.underlying f.type with | some .bool => true | _ => false)
 |_=>false
def fieldsOk (P:Program):List Field→List D→Nat→Bool
 |[],[],_=>true
 |f::fs,d::ds,n=>fieldOk P f d&&Nat.beq f.offset n&&fieldsOk P fs ds (n+1)
 |_,_,_=>false
def flatB (P:Program) (T:TypeId) (l:List D):Bool:=match P.underlying T with
 |some (.struct fs)=>!P.stoodInHeld T&&fieldsOk P fs.toList l 0&&!P.eqGuardType P.depth T
 |_=>false
def eqL:List D→List D→Option Bool
 |[],[]=>some true
 |.int k a::l,.int k' b::m=>match k == k',eqL l m with|true,some r=>some (decide (a=b)&&r)|_,_=>none
 |.bool a::l,.bool b::m=>match eqL l m with|some r=>some (a == b&&r)|none=>none
 |_,_=>none
section
variable {P:Program}{κ:Nat→Nat→Option Value}{γ:Nat→Nat}{sv:Nat→Value}
theorem run_fields (w:World) (d:Nat):∀ (fs:List Field) (l m:List D) (xs ys:List Value) (pre pre':List Value) (b:Bool),RepL κ γ sv l xs→RepL κ γ sv m ys→pre.length=pre'.length →
  fieldsOk P fs l pre.length=true→eqL l m=some b→(Op.eqFields (d+1) (pre++xs).toArray (pre'++ys).toArray fs).run P w=.ok b w:=by
 intro fs
 induction fs with
 |nil =>
  intro l m xs ys pre pre' b h1 h2 hp hf he
  cases l with
  |cons x l=>simp[fieldsOk]at hf
  |nil =>
   cases m with
   |nil=>simp[eqL]at he;subst he;simp[Op.eqFields]
   |cons x m=>simp[eqL]at he
 |cons f fs ih =>
  intro l m xs ys pre pre' b h1 h2 hp hf he
  cases l with
  |nil=>simp[fieldsOk]at hf
  |cons x l =>
   simp only[fieldsOk,Bool.and_eq_true]at hf
   obtain ⟨⟨hf1,hf2⟩,hf3⟩:=hf
   have hoff:=Nat.eq_of_beq_eq_true hf2
   cases m with
   |nil=>cases x<;>simp[eqL]at he
   |cons y m =>
    cases h1 with
    |cons _ vx _ vxs r1 rs1 =>
     cases h2 with
     |cons _ vy _ vys r2 rs2 =>
      have key : ∀ (r b' : Bool), f.name ≠ "_" → P.plainKey f.type = true → eqL l m = some b' → (Op.equalIn (d + 1) f.type vx vy).run P w = .ok r w → b = (r && b') → (Op.eqFields (d + 1) (pre ++ vx :: vxs).toArray (pre' ++ vy :: vys).toArray (f :: fs)).run P w = .ok b w := by
       intro r b' hn hk hb' hr hb
       have p1:(part f.type (pre++vx::vxs).toArray f.offset).run P w=.ok vx w:=run_part_plain w hk (by rw[hoff];simp)
       have p2:(part f.type (pre'++vy::vys).toArray f.offset).run P w=.ok vy w:=run_part_plain w hk (by rw[hoff,hp];simp)
       have hrest:=ih l m vxs vys (pre++[vx]) (pre'++[vy]) b' rs1 rs2 (by simp[hp]) (by rw[List.length_append];exact hf3) hb'
       simp only[List.append_assoc,List.singleton_append]at hrest
       simp only[Op.eqFields,hn,ne_eq,not_false_eq_true,if_true,Sem.run_bind,p1,p2,hr,Result.andThen_ok]
       cases r with
       |false=>simp[hb]
       |true=>simpa[hb] using hrest
      cases x<;>cases y<;>simp only[eqL]at he<;>try (cases he;done)
      ·rename_i k1 a k2 c
       cases r1;cases r2
       simp only[fieldOk,Bool.and_eq_true]at hf1
       obtain ⟨hn,hu⟩:=hf1
       cases hkk:k1 == k2 with
       |false=>rw[hkk]at he;simp at he
       |true =>
        have:k1=k2:=by simpa using hkk
        subst this
        rw[hkk]at he
        cases he2:eqL l m with
        |none=>rw[he2]at he;cases he
        |some r =>
         rw[he2]at he
         simp only[Option.some.injEq]at he
         cases hT:P.underlying f.type with
         |none=>simp[hT]at hu
         |some dd =>
          cases dd<;>simp[hT]at hu
          refine key (a == c) r (by simpa using hn) (by simp[Program.plainKey,hT]) he2 (by simp[Op.equalIn,run_underlying hT]) (by rw[← he];first|rfl|simp)
      ·rename_i a c
       cases r1;cases r2
       simp only[fieldOk,Bool.and_eq_true]at hf1
       obtain ⟨hn,hu⟩:=hf1
       cases he2:eqL l m with
       |none=>rw[he2]at he;cases he
       |some r =>
        rw[he2]at he
        simp only[Option.some.injEq]at he
        cases hT:P.underlying f.type with
        |none=>simp[hT]at hu
        |some dd =>
         cases dd<;>simp[hT]at hu
         refine key (a == c) r (by simpa using hn) (by simp[Program.plainKey,hT]) he2 (by simp[Op.equalIn,run_underlying hT]) (by rw[← he])
theorem run_eq_flat (w:World) (d:Nat) {T:TypeId}{l m:List D}{xs ys:List Value}{b:Bool} (hf:flatB P T l=true) (h1:RepL κ γ sv l xs) (h2:RepL κ γ sv m ys) (he:eqL l m=some b) :
  (Op.equalIn (d+2) T (.agg xs.toArray) (.agg ys.toArray)).run P w=.ok b w:=by
 unfold flatB at hf
 cases hu:P.underlying T with
 |none=>simp[hu]at hf
 |some dd =>
  cases dd<;>simp only[hu]at hf<;>try (cases hf;done)
  rename_i fs
  simp only[Bool.and_eq_true,Bool.not_eq_true']at hf
  have hfs:P.fieldsOf T=fs:=by simp[Program.fieldsOf,hu]
  rw[run_equalIn_struct w (d+1) T _ _ (by rw[hfs];exact hu) hf.1.1,hfs]
  exact run_fields w d fs.toList l m xs ys [] [] b h1 h2 rfl hf.1.2 he
theorem flat_guard {T:TypeId}{l:List D} (hf:flatB P T l=true):P.eqGuardType P.depth T=false:=by
 unfold flatB at hf
 cases hu:P.underlying T with
 |none=>simp[hu]at hf
 |some dd =>
  cases dd<;>simp only[hu]at hf<;>try (cases hf;done)
  simp only[Bool.and_eq_true,Bool.not_eq_true']at hf
  exact hf.2
end
def fields2Ok (P:Program):List Field→List D→Nat→Bool
 |[],[],_=>true
 | f :: fs, l, n => f.name != "_" && flatB P f.type (l.take (P.cellsOf f.type)) && Nat.beq f.offset n && Nat.beq (l.take (P.cellsOf f.type)).length (P.cellsOf f.type) && fields2Ok P fs (l.drop (P.cellsOf f.type)) (n + P.cellsOf f.type)
 |_,_,_=>false
def flat2B (P:Program) (T:TypeId) (l:List D):Bool:=match P.underlying T with
 |some (.struct fs)=>!P.stoodInHeld T&&fields2Ok P fs.toList l 0&&!P.eqGuardType P.depth T
 |_=>false
def flatA (P:Program) (T:TypeId) (l:List D):Bool:=flatB P T l || flat2B P T l
theorem eqL_split:∀ (n:Nat) (l m:List D) (b:Bool),eqL l m=some b→∃ b1 b2,eqL (l.take n) (m.take n)=some b1∧eqL (l.drop n) (m.drop n)=some b2∧b=(b1&&b2)
 |0,l,m,b,h=>⟨true,b,by simp[eqL],by simpa using h,by simp⟩
 |n+1,[],[],b,h=>⟨true,true,by simp[eqL],by simp[eqL],by simp[eqL]at h;subst h;rfl⟩
 |n+1,[],_::_,b,h=>by simp[eqL]at h
 |n+1,x::l,[],b,h=>by cases x<;>simp[eqL]at h
 |n+1,x::l,y::m,b,h=>by
  cases x<;>cases y<;>simp only[eqL]at h<;>try (cases h;done)
  ·rename_i k1 a k2 c
   cases hkk:k1 == k2 with
   |false=>rw[hkk]at h;simp at h
   |true =>
    rw[hkk]at h
    cases h2:eqL l m with
    |none=>rw[h2]at h;cases h
    |some r =>
     rw[h2]at h
     simp only[Option.some.injEq]at h
     obtain ⟨b1,b2,q1,q2,q3⟩:=eqL_split n l m r h2
     refine ⟨decide (a=c)&&b1,b2,?_,by simpa using q2,by rw[← h,q3,Bool.and_assoc]⟩
     simp only[List.take_succ_cons,eqL,hkk,q1]
  ·rename_i a c
   cases h2:eqL l m with
   |none=>rw[h2]at h;cases h
   |some r =>
    rw[h2]at h
    simp only[Option.some.injEq]at h
    obtain ⟨b1,b2,q1,q2,q3⟩:=eqL_split n l m r h2
    refine ⟨(a == c)&&b1,b2,?_,by simpa using q2,by rw[← h,q3,Bool.and_assoc]⟩
    simp only[List.take_succ_cons,eqL,q1]
section
variable {P:Program}{κ:Nat→Nat→Option Value}{γ:Nat→Nat}{sv:Nat→Value}
theorem RepL.drop':∀ {l:List D}{vs:List Value},RepL κ γ sv l vs→∀ n,RepL κ γ sv (l.drop n) (vs.drop n)
 |_,_,h,0=>by simpa using h
 |_,_,.nil,n+1=>by simpa using RepL.nil
 |_,_,.cons d v l vs h1 h2,n+1=>by simpa using RepL.drop' h2 n
theorem run_part_struct (w:World) {T:TypeId}{l:List D} (hf:flatB P T l=true) {pre xs:List Value}{off:Nat} (ho:off=pre.length) :
  (part T (pre++xs).toArray off).run P w=.ok (.agg (xs.take (P.cellsOf T)).toArray) w:=by
 unfold flatB at hf
 cases hu:P.underlying T with
 |none=>simp[hu]at hf
 |some dd =>
  cases dd<;>simp only[hu]at hf<;>try (cases hf;done)
  obtain ⟨i,hi⟩:=info_of_underlying hu
  have hc:P.cellsOf T=i.size:=by simp[Program.cellsOf,hi]
  have he:((pre++xs).toArray.extract off (off+i.size))=(xs.take i.size).toArray:=by
   apply Array.ext'
   rw[Array.toList_extract]
   simp[List.extract,ho]
  rw[hc,← he]
  simp[part,isAgg,run_underlying hu,sizeOf,typeInfo,hi]
theorem run_fields2 (w:World) (d:Nat):∀ (fs:List Field) (l m:List D) (xs ys:List Value) (pre pre':List Value) (b:Bool),RepL κ γ sv l xs→RepL κ γ sv m ys→pre.length=pre'.length →
  fields2Ok P fs l pre.length=true→eqL l m=some b→(Op.eqFields (d+2) (pre++xs).toArray (pre'++ys).toArray fs).run P w=.ok b w:=by
 intro fs
 induction fs with
 |nil =>
  intro l m xs ys pre pre' b h1 h2 hp hf he
  cases l with
  |cons x l=>simp[fields2Ok]at hf
  |nil =>
   cases m with
   |nil=>simp[eqL]at he;subst he;simp[Op.eqFields]
   |cons x m=>simp[eqL]at he
 |cons f fs ih =>
  intro l m xs ys pre pre' b h1 h2 hp hf he
  simp only[fields2Ok,Bool.and_eq_true]at hf
  obtain ⟨⟨⟨⟨hn,hf1⟩,hf2⟩,hf4⟩,hf3⟩:=hf
  have hoff:=Nat.eq_of_beq_eq_true hf2
  have hz:=Nat.eq_of_beq_eq_true hf4
  have hn : f.name ≠ "_" := by simpa using hn
  obtain ⟨b1,b2,q1,q2,q3⟩:=eqL_split (P.cellsOf f.type) l m b he
  have hl1:=(h1.take (P.cellsOf f.type)).length
  have hll:(m.take (P.cellsOf f.type)).length=P.cellsOf f.type:=by
   have:∀ (l m:List D) (b:Bool),eqL l m=some b→l.length=m.length:=by
    intro l
    induction l with
    |nil=>intro m b h;cases m<;>simp[eqL]at h ⊢
    |cons x l ih2 =>
     intro m b h
     cases m with
     |nil=>cases x<;>simp[eqL]at h
     |cons y m =>
      have:∃ b',eqL l m=some b':=by
       cases x<;>cases y<;>simp only[eqL]at h<;>try (cases h;done)
       ·rename_i k1 a k2 c
        cases hkk:k1 == k2<;>rw[hkk]at h
        ·simp at h
        ·cases h2:eqL l m with
         |none=>rw[h2]at h;cases h
         |some r=>exact⟨r,rfl⟩
       ·cases h2:eqL l m with
        |none=>rw[h2]at h;cases h
        |some r=>exact⟨r,rfl⟩
      obtain ⟨b',hb'⟩:=this
      simp[ih2 m b' hb']
   rw[← this _ _ _ q1,hz]
  have hl2:=(h2.take (P.cellsOf f.type)).length
  have p1:=run_part_struct (P:=P) w hf1 (pre:=pre) (xs:=xs) (off:=f.offset) hoff
  have p2:=run_part_struct (P:=P) w hf1 (pre:=pre') (xs:=ys) (off:=f.offset) (by rw[hoff,hp])
  have hr:=run_eq_flat (P:=P) w d hf1 (h1.take _) (h2.take _) q1
  have hrest:=ih (l.drop (P.cellsOf f.type)) (m.drop (P.cellsOf f.type)) (xs.drop (P.cellsOf f.type)) (ys.drop (P.cellsOf f.type)) (pre++xs.take (P.cellsOf f.type)) (pre'++ys.take (P.cellsOf f.type)) b2 (h1.drop' _) (h2.drop' _)
   (by rw[List.length_append,List.length_append,hl1,hl2,hz,hll,hp]) (by rw[List.length_append,hl1,hz];exact hf3) q2
  simp only[List.append_assoc,List.take_append_drop]at hrest
  simp only[Op.eqFields,hn,ne_eq,not_false_eq_true,if_true,Sem.run_bind,p1,p2,hr,Result.andThen_ok]
  cases b1 with
  |false=>simp[q3]
  |true=>simpa[q3] using hrest
theorem run_eq_flat2 (w:World) (d:Nat) {T:TypeId}{l m:List D}{xs ys:List Value}{b:Bool} (hf:flatA P T l=true) (h1:RepL κ γ sv l xs) (h2:RepL κ γ sv m ys) (he:eqL l m=some b) :
  (Op.equalIn (d+3) T (.agg xs.toArray) (.agg ys.toArray)).run P w=.ok b w:=by
 unfold flatA at hf
 rw[Bool.or_eq_true]at hf
 rcases hf with hf|hf
 ·exact run_eq_flat w (d+1) hf h1 h2 he
 unfold flat2B at hf
 cases hu:P.underlying T with
 |none=>simp[hu]at hf
 |some dd =>
  cases dd<;>simp only[hu]at hf<;>try (cases hf;done)
  rename_i fs
  simp only[Bool.and_eq_true,Bool.not_eq_true']at hf
  have hfs:P.fieldsOf T=fs:=by simp[Program.fieldsOf,hu]
  rw[run_equalIn_struct w (d+2) T _ _ (by rw[hfs];exact hu) hf.1.1,hfs]
  exact run_fields2 w d fs.toList l m xs ys [] [] b h1 h2 rfl hf.1.2 he
theorem flat_guardA {T:TypeId}{l:List D} (hf:flatA P T l=true):P.eqGuardType P.depth T=false:=by
 unfold flatA at hf
 rw[Bool.or_eq_true]at hf
 rcases hf with hf|hf
 ·exact flat_guard hf
 unfold flat2B at hf
 cases hu:P.underlying T with
 |none=>simp[hu]at hf
 |some dd =>
  cases dd<;>simp only[hu]at hf<;>try (cases hf;done)
  simp only[Bool.and_eq_true,Bool.not_eq_true']at hf
  exact hf.2
end
section
variable {X:Ctx}{S:St}{o:Oper}{T T2:TypeId}{x y:Operand}
theorem ev_agg {κ:Nat→Nat→Option Value}{sv:Nat→Value}{a:Act}{w:World} (hs:Sim X κ sv S a w) {l:List D} (h:S.ev X x=.agg l):∃ vs,a.eval x=.agg vs.toArray∧RepL κ S.γ sv l vs:=by
 have h1:=hs.ev x
 rw[h]at h1
 generalize a.eval x=v at h1
 cases h1 with
 |agg _ vs hv=>exact⟨vs,rfl,hv⟩
theorem q_eqA {l m:List D}{b:Bool} (ho:o.op=.binOp .eql T x y T2) (hx:S.ev X x=.agg l) (hy:S.ev X y=.agg m) (he:eqL l m=some b) (hf:flatA X.Z.P T l=true):QOp X o S (.bool b):=fun κ sv a w hs=>by
 obtain ⟨xs,e1,r1⟩:=ev_agg hs hx
 obtain ⟨ys,e2,r2⟩:=ev_agg hs hy
 refine ⟨.bool b,.bool _,fun w' _=>?_⟩
 have:=run_eq_flat2 (P:=X.Z.P) w' 9997 hf r1 r2 he
 simp[execOp,ho,e1,e2,eqGuard,binOp,Op.equal,Op.maxDepth,this,flat_guardA hf]
theorem q_neA {l m:List D}{b:Bool} (ho:o.op=.binOp .neq T x y T2) (hx:S.ev X x=.agg l) (hy:S.ev X y=.agg m) (he:eqL l m=some b) (hf:flatA X.Z.P T l=true):QOp X o S (.bool (!b)):=fun κ sv a w hs=>by
 obtain ⟨xs,e1,r1⟩:=ev_agg hs hx
 obtain ⟨ys,e2,r2⟩:=ev_agg hs hy
 refine ⟨.bool (!b),.bool _,fun w' _=>?_⟩
 have:=run_eq_flat2 (P:=X.Z.P) w' 9997 hf r1 r2 he
 simp[execOp,ho,e1,e2,eqGuard,binOp,Op.equal,Op.maxDepth,this,flat_guardA hf]
end
section
variable {X:Ctx}{Q:Exit→St→Prop}{S S':St}{ops:Array Oper}{o:Oper}{rest:List Oper}{T:TypeId}{r q:TRow}
theorem n_bsl0 {ps:Array (Nat×Operand)}{t z:Nat}{E:TypeId} (f:Nat→List D) (ho:o.op=.buildSlice T 0 ps) (hd:o.dst=some t) (hps:ps=#[])
  (hr:nth X.Z.tab T=some r) (hk:Nat.beq r.k 3=true) (hE:r.el=E) (hq:nth X.Z.tab E=some q) (hq9:Nat.beq q.k 9=false) (hz:q.sz=z) :
  NOp X o S (S.owned t t (.arr E z 0 f)):=fun κ sv a w hs=>by
 have hokr:=X.Z.tabOk _ _ hr (by intro e;rw[e]at hk;cases hk)
 have hokq:=X.Z.tabOk _ _ hq (by intro e;rw[e]at hq9;cases hq9)
 obtain ⟨iq,dq,hiq,hdq,hsq,hbq,⟨zv,hzv,hzf⟩,_⟩:=row_info hokq
 have hu:=slice_row hokr hk
 rw[hE]at hu
 have hrun:(execOp a.eval o).run X.Z.P w=.ok (.value (.slice (some ⟨w.heap.size,0,none⟩) 0 0)) (w.alloc (.cells #[] E)):=by
  have hz0:(Array.range 0).map (fun _=>(default:Value))=#[]:=by
   apply Array.eq_empty_of_size_eq_zero;simp
  simp[execOp,ho,hps,Instr.buildSlice,run_underlying hu,sizeOf,typeInfo,hiq,newRow,Instr.fill,hz0]
 have hb':Below w.heap.size w (w.alloc (.cells #[] E)):=(Below.refl _ _).alloc (Nat.le_refl _) _
 rw[hd]
 refine ⟨_,_,κ,_,.inl hrun,sim_owned hs t t (pv:=.slice (some ⟨w.heap.size,0,none⟩) 0 0) rfl (below_grown hb' _) (fun b hb=>by simp only[blk,Option.some.injEq]at hb;exact .inl (by omega)) ?_⟩
 refine ⟨[],by rw[upd_same];exact⟨by simp,.inr ⟨w.heap.size,0,0,#[],rfl,(hs.wld.baseS _),heap_alloc_new w _,Nat.le_refl _,Nat.zero_le _,by simp,by simp⟩⟩,fun i h=>by omega,fun i h=>by omega,fun i h=>by omega⟩
theorem n_bslo {ps:Array (Nat×Operand)}{n z t:Nat}{xs:List Operand}{E:TypeId}{cs:List (List D)} (ho:o.op=.buildSlice T n ps) (hd:o.dst=some t) (hsq:seqP 0 ps.toList=some xs) (hn:Nat.beq xs.length n=true)
  (hr:nth X.Z.tab T=some r) (hk:Nat.beq r.k 3=true) (hE:r.el=E) (hq:nth X.Z.tab E=some q) (hq9:Nat.beq q.k 9=false) (hz:q.sz=z) (hz0:Nat.beq z 0=false) (hn0:Nat.beq n 0=false) (hsm:Nat.ble (n * z) 16777216=true) (hc:evC X S xs=cs) (hok:okC z cs=true) :
  NOp X o S (S.owned t t (.arr E z n (nthD cs))):=fun κ sv a w hs=>by
 subst hc
 obtain ⟨hrun,hfl⟩:=run_bsl hs ho hsq hn hr hk hE hq hq9 hz hz0 hn0 hsm hok
 obtain ⟨hrep,hcells⟩:=evC_rep hs hok
 have hlen:xs.length=n:=Nat.eq_of_beq_eq_true hn
 have hz1:0<z:=by
  cases z with
  |zero=>cases hz0
  |succ z=>omega
 have hle:n * z≤16777216:=Nat.le_of_ble_eq_true hsm
 have hnz:n≤n * z:=Nat.le_mul_of_pos_right n hz1
 have hb':Below w.heap.size w (w.alloc (.cells ((xs.map a.eval).map (·.cells.toList)).flatten.toArray E)):=(Below.refl _ _).alloc (Nat.le_refl _) _
 rw[hd]
 refine ⟨_,_,κ,_,.inl hrun,sim_owned hs t t (pv:=.slice (some ⟨w.heap.size,0,none⟩) n n) rfl (below_grown hb' _) (fun b hb=>by simp only[blk,Option.some.injEq]at hb;exact .inl (by omega)) ?_⟩
 have hnth:∀ i,i<n→∃ c,nth (evC X S xs) i=some c∧nthD (evC X S xs) i=c:=by
  intro i hi
  rw[nth_eq]
  have:i<(evC X S xs).length:=by rw[evC_length,hlen];exact hi
  exact⟨(evC X S xs)[i],by simp[this],by simp[nthD,nth_eq,this]⟩
 refine ⟨((xs.map a.eval).map (·.cells.toList)).flatten,by rw[upd_same];exact⟨hfl,.inr ⟨w.heap.size,0,n,((xs.map a.eval).map (·.cells.toList)).flatten.toArray,rfl,(hs.wld.baseS _),heap_alloc_new w _,Nat.le_refl _,by unfold maxLen;omega,by rw[List.size_toArray,hfl];omega,by rw[List.drop_zero,List.take_of_length_le (by simp only[List.toList_toArray];omega)]⟩⟩,fun i hi=>?_,fun i hi=>?_,fun i hi=>?_⟩
 ·obtain ⟨c,h1,h2⟩:=hnth i hi;rw[h2];exact(hrep i c h1).1
 ·obtain ⟨c,h1,h2⟩:=hnth i hi;rw[h2];exact(hrep i c h1).2.1
 ·obtain ⟨c,h1,h2⟩:=hnth i hi
  obtain ⟨_,_,v,h3,h4⟩:=hrep i c h1
  rw[h2]
  have hch:((((xs.map a.eval).map (·.cells.toList)).flatten).drop (i * z)).take z=v.cells.toList:=by
   apply List.ext_getElem?
   intro j
   rw[List.getElem?_take]
   split
   ·rename_i hj
    rw[List.getElem?_drop,flat_at _ (z:=z) (fun c hc=>by
     obtain ⟨v,hv,rfl⟩:=List.mem_map.1 hc
     simpa using (hcells v hv).1) i j hj]
    rw[List.getElem?_map,h3];rfl
   ·rename_i hj
    have hv:v∈xs.map a.eval:=List.mem_of_getElem? h3
    have:=(hcells v hv).1
    rw[List.getElem?_eq_none (by simp at this ⊢;omega)]
  rw[hch]
  exact h4.mono (le_renew κ S.γ sv t _)
theorem wk_freeze_elem (t i j:Nat) {s g E z n E2 z2 n2:Nat}{f f2 f2':Nat→List D}{l0 l':List D} (hσt:S.σ t=.arr E2 z2 n2 f2) (hne:Nat.beq t s=false) (hi:i<n2) (h0:f2 i=l0) (hl:nth l0 j=some (.os s g)) (hg:S.γ s=g) (hσ:S.σ s=.arr E z n f) (hl':overN l0 j [.sl z n f]=some l') (hf:∀ k,k<n2→f2' k=if k=i then l' else f2 k) (hxa:X.xa s=false:=by rfl) :
  Wk X S ⟨S.ρ,S.γ,upd (upd S.σ s .none) t (.arr E2 z2 n2 f2')⟩:=fun κ sv a w hs=>by
 have hle:=freeze_le hs.wld s
 subst h0
 have hne:t≠s:=fun e=>by rw[e,Nat.beq_refl]at hne;cases hne
 have hW:=hs.wld.freeze s (arr_new hs.wld hσ hxa) S.ρ
 obtain ⟨hl'e,hlen⟩:=overN_eq hl'
 have hown:=hW.own t
 simp only[upd_ne _ _ _ _ hne,hσt]at hown
 obtain ⟨xs,e1,e2,e3,e4⟩:=hown
 have hsim:SimW X (fun b o=>if blk (S.σ s) (sv s)=some b then w.cell? ⟨b,o,none⟩ else κ b o) sv ⟨S.ρ,S.γ,upd (upd S.σ s .none) t (.arr E2 z2 n2 f2')⟩ w:=by
  refine hW.rewrite t (.arr E2 z2 n2 f2') (below_grown (Below.refl _ _) _) (by
   simp only[upd_ne _ _ _ _ hne,hσt]
   cases sv t with
   |pointer a=>cases a<;>rfl
   |slice a=>cases a<;>rfl
   |map a=>cases a<;>rfl
   |_=>rfl) ⟨xs,e1,fun k hk=>?_,fun k hk=>?_,fun k hk=>?_⟩ _
  ·rw[hf k hk]
   split
   ·rename_i h;subst h;rw[hl'e];have:=e2 k hk;simp at hlen ⊢;omega
   ·exact e2 k hk
  ·rw[hf k hk]
   split
   ·rename_i h;subst h;rw[hl'e];exact allCell_append (allCell_append (allCell_take (e3 k hk) _) rfl) (allCell_drop (e3 k hk) _)
   ·exact e3 k hk
  ·rw[hf k hk]
   split
   ·rename_i h
    subst h
    rw[hl'e]
    have e3':=e4 k hk
    rw[nth_eq]at hl
    obtain ⟨vj,hvj,hrj⟩:=e3'.get hl
    generalize (xs.drop (k * z2)).take z2=cs at e3' hvj
    have hjl:j<cs.length:=(List.getElem?_eq_some_iff.1 hvj).1
    have hcs:cs=cs.take j++[vj]++cs.drop (j+1):=by
     have h3:cs[j]=vj:=by simpa[List.getElem?_eq_getElem hjl] using hvj
     rw[← h3,List.append_assoc,List.singleton_append,List.getElem_cons_drop,List.take_append_drop]
    rw[hcs]
    refine ((e3'.take j).append (.cons _ _ _ _ ?_ .nil)).append (e3'.drop _)
    have hv:vj=sv s:=by
     cases hrj with
     |os _ _ _ _ hh _=>exact hh hg.symm
    rw[hv]
    exact frozen_rep hs.wld hσ hle (fun b o v hb hc=>by simp[hb,hc])
   ·exact e4 k hk
 exact⟨_,sv,⟨hs.size,hs.defers,fun i hi=>(hs.slot i hi).mono hle,hsim⟩⟩
theorem wk_nilc (t j s:Nat) (E z:Nat) (f:Nat→List D) {l l':List D} (hσt:S.σ t=.box l) (hne:Nat.beq t s=false) (hs0:S.σ s=.none) (hl:nth l j=some .nil) (hl':overN l j [.os s (S.γ s+1)]=some l') :
  Wk X S ⟨S.ρ,upd S.γ s (S.γ s+1),upd (upd S.σ s (.arr E z 0 f)) t (.box l')⟩:=fun κ sv a w hs=>by
 have hne:t≠s:=fun e=>by rw[e,Nat.beq_refl]at hne;cases hne
 obtain ⟨rfl,hlen⟩:=overN_eq hl'
 have hle:=le_renew κ S.γ sv s (.slice none 0 0)
 have hW:=hs.wld.renew s (.arr E z 0 f) (.slice none 0 0) (below_grown (Below.refl _ _) _) (fun b hb=>by cases hb)
   ⟨[],by rw[upd_same];exact ownsAt_nil _ _ _ _,fun _ h=>by omega,fun _ h=>by omega,fun _ h=>by omega⟩ S.ρ
 refine ⟨κ,upd sv s (.slice none 0 0),⟨hs.size,hs.defers,fun i hi=>(hs.slot i hi).mono hle,?_⟩⟩
 have hown:=hW.own t
 simp only[upd_ne _ _ _ _ hne,hσt]at hown
 obtain ⟨b,Tb,cs,e1,e2,e3,e4⟩:=hown
 refine hW.rewrite t (.box _) (below_grown (Below.refl _ _) _) (by simp only[upd_ne _ _ _ _ hne,hσt]at e1 ⊢;rw[e1];rfl) ⟨b,Tb,cs,e1,e2,?_,?_⟩ _
 ·rw[nth_eq]at hl
  obtain ⟨vj,hvj,hrj⟩:=e3.get hl
  have hjl:j<cs.length:=(List.getElem?_eq_some_iff.1 hvj).1
  have hcs:cs=cs.take j++[vj]++cs.drop (j+1):=by
   have h3:cs[j]=vj:=by simpa[List.getElem?_eq_getElem hjl] using hvj
   rw[← h3,List.append_assoc,List.singleton_append,List.getElem_cons_drop,List.take_append_drop]
  rw[hcs]
  refine ((e3.take j).append (.cons _ _ _ _ ?_ .nil)).append (e3.drop _)
  cases hrj
  exact .os _ _ _ (by rw[upd_same];exact Nat.le_refl _) (fun _=>by rw[upd_same]) rfl
 ·exact⟨allCell_append (allCell_append (allCell_take e4.1 _) rfl) (allCell_drop e4.1 _),fun T0 e=>e4.2 T0 (mbT_over rfl _ _ _ _ e)⟩
theorem updF_same (f:Nat→List D) (i:Nat) (l:List D):updF f i l i=l:=by simp[updF]
theorem updF_ne (f:Nat→List D) {i k:Nat} (l:List D) (h:k≠i):updF f i l k=f k:=by simp[updF,h]
end
section
variable {X:Ctx}{S:St}{o:Oper}{x:Operand}
end
section
variable {X:Ctx}{S:St}{rs:List ResultVar}
end
section
variable {X:Ctx}{S S':St}{rs:List ResultVar}{R:D}{e:Exit}
end
section
variable {X:Ctx}{S:St}{o:Oper}{T:TypeId}{r q:TRow}
end
end Go.Ab
namespace Go.Ab
open Go Go.RowKit Go.Shelf
def growT (T:Nat→Prop) (W W':World):Nat→Prop:=fun b=>T b∨(W.heap.size≤b∧b<W'.heap.size)
structure Kept (T:Nat→Prop) (κ:Nat→Nat→Option Value) (W W':World):Prop where
 size:W.heap.size≤W'.heap.size
 mine:∀ b,T b→W'.heap[b]?=W.heap[b]?
 cell:∀ b o v,κ b o=some v→W'.cell? ⟨b,o,none⟩=some v
 row:∀ b o v,κ b o=some v→W'.heap[b]?=W.heap[b]?
def giveT (T G:Nat→Prop):Nat→Prop:=fun b=>T b∧¬ G b
structure Given (T G:Nat→Prop) (κ κi:Nat→Nat→Option Value) (W:World) (its:List D) (vs:List Value):Prop where
 mine:∀ b,G b→T b
 from':∀ b o v,κi b o=some v→(κ b o=some v∨G b)∧W.cell? ⟨b,o,none⟩=some v
 rep:RepL κi γ0 sv0 its vs
structure ItC (Z:Seat) (gf:FuncId) (cap:List D) (n:Nat) (its:Nat→List D):Prop where
 body:HasBody Z.P gf
 pureI:∀ k,k<n→PureL (its k)
 pureC:PureL cap
 it:∀ (w:World) (κ:Nat→Nat→Option Value) (lb:List Value),Fits κ w→GlobOk Z κ w→RepL κ γ0 sv0 cap lb→∀ (l:Nat) (J Jx:(Nat→Prop)→Nat→World→Prop),
  (∀ T k W W',J T k W→Step T W W'→J (growT T W W') k W') →
  (∀ T k W W',Jx T k W→Step T W W'→Jx (growT T W W') k W') →
  (∀ T k W vs G κi,J T k W→k<n→(∀ b o v,κ b o=some v→W.cell? ⟨b,o,none⟩=some v)→Given T G κ κi W (its k) vs→YieldAt Fence.wide 0 Z.P l vs.toArray W fun e W' =>
   ((e=.returned (.bool true)∧J (giveT T G) (k+1) W')∨(e=.returned (.bool false)∧Jx (giveT T G) (k+1) W'))∧Kept (giveT T G) κ W W') →
  J (fun _=>False) 0 w →
  CallsIn Fence.wide 0 Z.P gf (Value.func (.yield l) #[] #[]::lb).toArray w fun e W'=>(∃ v,e=.returned v)∧((∃ T,J T n W')∨(∃ T k,k≤n∧Jx T k W'))
def protF (w0:World) (ext:Option Nat) (T:Nat→Prop) (wT:World) (M:Nat→Prop) (w:World):Prop :=
 (∃ M',plainF w0 ext M' w∧∀ b,M b→M' b)∧(∀ b,M b→¬ T b)∧(∀ b,T b→b<wT.heap.size∧w.heap[b]?=wT.heap[b]?)∧wT.heap.size≤w.heap.size
theorem prot_fr (Z:Seat) (w0:World) (ext:Option Nat) (T:Nat→Prop) (wT:World):∀ M w,protF w0 ext T wT M w→∀ g n,Z.gsz g=some n→g<w0.heap.size→ext≠some g→¬ (fun _:Nat=>False) g→RowSz w0 g n→RowSz w g n:=fun M w h g n hn hk he hx hr=>by
 obtain ⟨⟨M',h1,_⟩,_⟩:=h
 exact plain_fr Z w0 ext M' w h1 g n hn hk he hx hr
theorem prot_cl (w0:World) (ext:Option Nat) (T:Nat→Prop) (wT:World):∀ M w w',protF w0 ext T wT M w→Step M w w'→protF w0 ext T wT (fun k=>M k∨w.heap.size≤k) w':=by
 rintro M w w' ⟨⟨M',h1,h2⟩,h3,h4,h5⟩ hs
 refine ⟨⟨_,plain_cl w0 ext M' w w' h1 ⟨hs.os,hs.tape,hs.output,hs.size,fun k hk hm=>hs.block k hk fun h=>hm (h2 k h)⟩,fun b hb=>hb.imp (h2 b) id⟩,fun b hb hT=>?_,fun b hT=>?_,Nat.le_trans h5 hs.size⟩
 ·rcases hb with hb|hb
  ·exact h3 b hb hT
  ·have:=(h4 b hT).1;omega
 ·obtain ⟨e1,e2⟩:=h4 b hT
  exact⟨e1,(hs.block b (by omega) (fun hm=>h3 b hm hT)).trans e2⟩
section
variable {Z:Seat}{nt:Nat}{w0:World}{κ0 κp:Nat→Nat→Option Value}{ext:Option Nat}{γp:Nat→Nat}{svp:Nat→Value}{T:Nat→Prop}
theorem SimW.other {κ:Nat→Nat→Option Value}{sv:Nat→Value}{S:St}{W W':World}{ro:Option Nat}{cl:_}{fr:_} (h:SimW ⟨Z,nt,w0,κ0,ext,fun _=>False,κp,γp,svp,T,false,ro,plainF w0 ext,cl,fr,fun _=>false⟩ κ sv S W) (hs:Step T W W') (hT:∀ b,T b→w0.heap.size≤b) :
  SimW ⟨Z,nt,w0,κ0,ext,fun _=>False,κp,γp,svp,growT T W W',false,ro,plainF w0 ext,cl,fr,fun _=>false⟩ κ sv S W':=by
 obtain ⟨h1,h2,h3,h4,h5,⟨M,h6,h6'⟩,h7,h8,h9,h10,h11,h12,h13,h14,h15⟩:=h
 have hlt:∀ b o v,κ b o=some v→b<W.heap.size:=fun b o v hk=>by have:=World.block_lt_of_cell? W _ (h1 b o v hk);simpa using this
 refine ⟨fun b o v hk=>?_,fun s=>owns_mono (Le.refl _ _ _) rfl (fun b hb=>hs.block b (owns_lt (h2 s) hb) (h13 s b hb)) (h2 s),h3,h4,h5,⟨M,?_,h6'⟩,h7,h8,h9,Nat.le_trans h10 hs.size,h11,fun b o v hk hT'=>?_,fun s b hb hT'=>?_,fun b hT'=>?_,h15⟩
 ·rw[World.cell?_of_block (hs.block b (hlt b o v hk) (h12 b o v hk))];exact h1 b o v hk
 ·refine ⟨⟨hs.os.trans h6.1.os,hs.tape.trans h6.1.tape,hs.output.trans h6.1.output,Nat.le_trans h6.1.size hs.size,fun k hk he=>?_⟩,h6.2⟩
  exact(hs.block k (Nat.lt_of_lt_of_le hk h6.1.size) (fun hm=>by have:=hT k hm;omega)).trans (h6.1.block k hk he)
 ·rcases hT' with hT'|⟨hT',_⟩
  ·exact h12 b o v hk hT'
  ·have:=hlt b o v hk;omega
 ·rcases hT' with hT'|⟨hT',_⟩
  ·exact h13 s b hb hT'
  ·have:=owns_lt (h2 s) hb;omega
 ·rcases hT' with hT'|⟨_,hT'⟩
  ·exact Nat.lt_of_lt_of_le (h14 b hT') hs.size
  ·exact hT'
theorem SimW.reframe {κ:Nat→Nat→Option Value}{sv:Nat→Value}{S:St}{W W':World}{nd nd':Bool}{ro ro':Option Nat}{Φ Φ':(Nat→Prop)→World→Prop}{cl:_}{cl':_}{fr:_}{fr':_}{T':Nat→Prop}{κp':Nat→Nat→Option Value}{γp':Nat→Nat}{svp':Nat→Value}
  (h:SimW ⟨Z,nt,w0,κ0,ext,fun _=>False,κp,γp,svp,T,nd,ro,Φ,cl,fr,fun _=>false⟩ κ sv S W) {D:Nat} (hg:W.grownBy W' (some D)) (hn:∃ o:Obj,W.heap[D]?=some o∧isDat o=false)
  (hΦ:∀ M,Φ M W→(∀ s b,blk (S.σ s) (sv s)=some b→M b)→∃ M',Φ' M' W'∧∀ s b,blk (S.σ s) (sv s)=some b→M' b) (hT:∀ b,T' b→T b) (hle:Le κp' κ γp' S.γ svp' sv) :
  SimW ⟨Z,nt,w0,κ0,ext,fun _=>False,κp',γp',svp',T',nd',ro',Φ',cl',fr',fun _=>false⟩ κ sv S W':=by
 obtain ⟨h1,h2,h3,h4,h5,⟨M,h6,h6'⟩,h7,h8,h9,h10,h11,h12,h13,h14,h15⟩:=h
 obtain ⟨o0,ho1,ho2⟩:=hn
 have hne:∀ s b,blk (S.σ s) (sv s)=some b→W'.heap[b]?=W.heap[b]?:=fun s b hb=>hg.block b (owns_lt (h2 s) hb) (fun e=>by
  obtain ⟨o,e1,e2⟩:=owns_cells (h2 s) hb
  simp only[Option.some.injEq]at e
  subst e
  rw[ho1]at e1;cases e1;rw[ho2]at e2;cases e2)
 exact⟨fun b o v hk=>cell_kept (h1 b o v hk) hg (fun r e=>by cases e;exact⟨o0,ho1,isDat_no ho2⟩),fun s=>owns_mono (Le.refl _ _ _) rfl (hne s) (h2 s),h3,h4,h5,hΦ M h6 h6',h7,h8,h9,Nat.le_trans h10 hg.size,hle,
  fun b o v hk hb=>h12 b o v hk (hT b hb),fun s b hb hb'=>h13 s b hb (hT b hb'),fun b hb=>Nat.lt_of_lt_of_le (h14 b (hT b hb)) hg.size,h15⟩
def joinK (κ κi:Nat→Nat→Option Value):Nat→Nat→Option Value:=fun b o=>match κ b o with|some v=>some v|none=>κi b o
theorem SimW.more {κ κi:Nat→Nat→Option Value}{sv:Nat→Value}{S:St}{W:World}{G:Nat→Prop}{its:List D}{vs:List Value}{cl:_}{fr:_} (h:SimW ⟨Z,nt,w0,κ0,ext,fun _=>False,κp,γp,svp,T,false,none,plainF w0 ext,cl,fr,fun _=>false⟩ κ sv S W) (hT:∀ b,T b→w0.heap.size≤b) (hg:Given T G κp κi W its vs) :
  SimW ⟨Z,nt,w0,κ0,ext,fun _=>False,κp,γp,svp,giveT T G,false,none,plainF w0 ext,cl,fr,fun _=>false⟩ (joinK κ κi) sv S W∧(∀ b o v,κi b o=some v→joinK κ κi b o=some v):=by
 obtain ⟨h1,h2,h3,h4,h5,h6,h7,h8,h9,h10,h11,h12,h13,h14,h15⟩:=h
 have hle:Le κ (joinK κ κi) S.γ S.γ sv sv:=⟨fun b o v hk=>by simp only[joinK,hk],fun _=>Nat.le_refl _,fun _ _=>rfl⟩
 have hnew:∀ b o v,joinK κ κi b o=some v→κ b o=some v∨(κ b o=none∧κi b o=some v∧G b):=fun b o v hk=>by
  unfold joinK at hk
  cases hq:κ b o with
  |some u=>rw[hq]at hk;exact .inl hk
  |none =>
   rw[hq]at hk
   rcases (hg.from' b o v hk).1 with h|h
   ·have:=h11.cells b o v h;rw[hq]at this;cases this
   ·exact .inr ⟨rfl,hk,h⟩
 refine ⟨⟨fun b o v hk=>?_,fun s=>owns_mono hle rfl (fun _ _=>rfl) (h2 s),h3,fun s b o hs=>?_,h5,h6,fun g l hl=>?_,fun b o v hb hk=>?_,h9,h10,h11.trans hle,fun b o v hk hq=>?_,fun s b hb hq=>h13 s b hb hq.1,fun b hb=>h14 b hb.1,h15⟩,fun b o v hk=>?_⟩
 ·rcases hnew b o v hk with h|⟨_,h,_⟩
  ·exact h1 b o v h
  ·exact(hg.from' b o v h).2
 ·cases hq:joinK κ κi b o with
  |none=>rfl
  |some v =>
   rcases hnew b o v hq with h|⟨_,_,h⟩
   ·rw[h4 s b o hs]at h;cases h
   ·exact absurd (hg.mine b h) (h13 s b hs)
 ·obtain ⟨hc,u,hu,hk⟩:=h7 g l hl
  exact⟨hc,u,hu.mono hle,fun j v hj=>hle.cells _ _ _ (hk j v hj)⟩
 ·rcases hnew b o v hk with h|⟨_,_,h⟩
  ·exact h8 b o v hb h
  ·have:=hT b (hg.mine b h)
   have hb:b<w0.heap.size:=hb
   omega
 ·rcases hnew b o v hk with h|⟨_,_,h⟩
  ·exact h12 b o v h hq.1
  ·exact hq.2 h
 ·unfold joinK
  cases hq:κ b o with
  |none=>exact hk
  |some u =>
   have e1:=h1 b o u hq
   rw[(hg.from' b o v hk).2]at e1
   exact e1.symm
def setps (ρ:Nat→D):List Nat→List D→Nat→D
 |t::ts,d::ds=>setps (upd ρ t d) ts ds
 |_,_=>ρ
theorem slots_set {κ:Nat→Nat→Option Value}{γ:Nat→Nat}{sv:Nat→Value}:∀ (ts:List Nat) (ds:List D) (vs:List Value) (ρ:Nat→D) (tm:Array Value),RepL κ γ sv ds vs→(∀ i,i<nt→Rep κ γ sv (ρ i) (tm.getD i Go.undef))→tm.size=nt →
  (∀ i,i<nt→Rep κ γ sv (setps ρ ts ds i) (((ts.zip vs).foldl (fun (t:Array Value) (x:Nat×Value)=>t.setIfInBounds x.1 x.2) tm).getD i Go.undef))∧((ts.zip vs).foldl (fun (t:Array Value) (x:Nat×Value)=>t.setIfInBounds x.1 x.2) tm).size=nt
 |[],_,_,_,_,_,h,hz=>⟨h,hz⟩
 |t::ts,_,_,ρ,tm,.nil,h,hz=>⟨h,hz⟩
 |t::ts,_,_,ρ,tm,.cons d v ds vs h1 h2,h,hz=>by
  simp only[setps,List.zip_cons_cons,List.foldl_cons]
  refine slots_set ts ds vs (upd ρ t d) (tm.setIfInBounds t v) h2 (fun i hi=>?_) (by simpa using hz)
  rw[getD_set]
  by_cases e:t=i
  ·subst e;rw[if_pos ⟨rfl,by omega⟩,upd_same];exact h1
  ·rw[if_neg (fun h=>e h.1),upd_ne _ _ _ _ (fun h=>e h.symm)];exact h i hi
def roundX (Z:Seat) (nt:Nat) (w0:World) (κ0:Nat→Nat→Option Value) (ext:Option Nat) (κp:Nat→Nat→Option Value) (γp:Nat→Nat) (svp:Nat→Value) (T:Nat→Prop) (l:Nat) (Φ:(Nat→Prop)→World→Prop) (cl:∀ M w w',Φ M w→Step M w w'→Φ (fun k=>M k∨w.heap.size≤k) w') (fr:∀ M w,Φ M w→∀ g n,Z.gsz g=some n→g<w0.heap.size→ext≠some g→¬ (fun _:Nat=>False) g→RowSz w0 g n→RowSz w g n):Ctx :=
 ⟨Z,nt,w0,κ0,ext,fun _=>False,κp,γp,svp,T,false,some l,Φ,cl,fr,fun _=>false⟩
end
end Go.Ab
namespace Go.Ab
open Go Go.RowKit
def itF (w:World) (J:(Nat→Prop)→World→Prop) (U P:Nat→Prop) (w1:World) (M:Nat→Prop) (W:World):Prop:=∃ T,J T W∧(∀ b,b<W.heap.size→M b→T b)∧(∀ b,w.heap.size≤b→b<W.heap.size→¬ U b→T b)∧∀ b,P b→T b∧¬ M b∧¬ U b∧b<W.heap.size∧W.heap[b]?=w1.heap[b]?
theorem itF_cl {w:World}{J:(Nat→Prop)→World→Prop}{U P:Nat→Prop}{w1:World} (hJ:∀ T W W',J T W→Step T W W'→J (growT T W W') W'):∀ M W W',itF w J U P w1 M W→Step M W W'→itF w J U P w1 (fun k=>M k∨W.heap.size≤k) W':=by
 rintro M W W' ⟨T,h1,h2,h3,h4⟩ hs
 refine ⟨growT T W W',hJ T W W' h1 ⟨hs.os,hs.tape,hs.output,hs.size,fun k hk hT=>hs.block k hk (fun hm=>hT (h2 k hk hm))⟩,fun b hb hM=>?_,fun b h4 h5 h6=>?_,fun b hb=>?_⟩
 ·by_cases e:b<W.heap.size
  ·rcases hM with hM|hM
   ·exact .inl (h2 b e hM)
   ·omega
  ·exact .inr ⟨by omega,hb⟩
 ·by_cases e:b<W.heap.size
  ·exact .inl (h3 b h4 e h6)
  ·exact .inr ⟨by omega,h5⟩
 ·obtain ⟨q1,q2,q3,q4,q5⟩:=h4 b hb
  exact⟨.inl q1,fun h=>h.elim q2 (fun h=>by omega),q3,Nat.lt_of_lt_of_le q4 hs.size,(hs.block b q4 q2).trans q5⟩
structure Env where
 Z:Seat
 nt:Nat
 w:World
 κ:Nat→Nat→Option Value
 l:Nat
 n:Nat
 its:Nat→List D
 J:(Nat→Prop)→Nat→World→Prop
 Jx:(Nat→Prop)→Nat→World→Prop
 w1:World
 κ1:Nat→Nat→Option Value
 ex:Nat→Prop
 γp:Nat→Nat
 svp:Nat→Value
 P:Nat→Prop
 hw:w.heap.size≤w1.heap.size
 hex:∀ b o,ex b→κ b o=none
 hκ:∀ b o v,κ b o=some v→κ1 b o=some v
 hκ1:∀ b o v,b<w.heap.size→κ1 b o=some v→κ b o=some v
 hJ:∀ T k W W',J T k W→Step T W W'→J (growT T W W') k W'
 hJx:∀ T k W W',Jx T k W→Step T W W'→Jx (growT T W W') k W'
 hY:∀ T k W vs G κi,J T k W→k<n→(∀ b o v,κ b o=some v→W.cell? ⟨b,o,none⟩=some v)→Given T G κ κi W (its k) vs→YieldAt Fence.wide 0 Z.P l vs.toArray W fun e W' =>
   ((e=.returned (.bool true)∧J (giveT T G) (k+1) W')∨(e=.returned (.bool false)∧Jx (giveT T G) (k+1) W'))∧Kept (giveT T G) κ W W'
def KZ (E:Env) (T:Nat→Prop) (W:World):Prop:=(∀ b,T b→E.w.heap.size≤b∨E.ex b)∧E.w.heap.size≤W.heap.size∧∀ g n,E.Z.gsz g=some n→g<E.w.heap.size∧(∃ v,E.κ g 0=some v)∧RowSz W g n
theorem KZ.step {E:Env}{T:Nat→Prop}{W W':World} (h:KZ E T W) (hs:Step T W W'):KZ E (growT T W W') W' :=
 ⟨fun b hb=>hb.elim (h.1 b) (fun e=>.inl (Nat.le_trans h.2.1 e.1)),Nat.le_trans h.2.1 hs.size,fun g n hn=>by
  obtain ⟨h1,⟨v,h2⟩,h3⟩:=h.2.2 g n hn
  refine ⟨h1,⟨v,h2⟩,h3.eq (hs.block g (Nat.lt_of_lt_of_le h1 h.2.1) (fun ht=>?_))⟩
  rcases h.1 g ht with h4|h4
  ·omega
  ·rw[E.hex g 0 h4]at h2;cases h2⟩
def Env.K (E:Env) (k:Nat) (s:Bool) (T:Nat→Prop) (W:World):Prop:=(match s with|true=>E.Jx T k W|false=>E.J T k W)∧KZ E T W
theorem Env.hK (E:Env) (k:Nat) (s:Bool):∀ T W W',E.K k s T W→Step T W W'→E.K k s (growT T W W') W':=by
 cases s
 ·exact fun T W W' h hs=>⟨E.hJ T k W W' h.1 hs,h.2.step hs⟩
 ·exact fun T W W' h hs=>⟨E.hJx T k W W' h.1 hs,h.2.step hs⟩
def Env.X (E:Env) (k:Nat) (s:Bool) (U:Nat→Prop):Ctx:=⟨E.Z,E.nt,E.w1,E.κ1,none,E.ex,E.κ1,E.γp,E.svp,U,true,none,itF E.w (E.K k s) U E.P E.w1,itF_cl (E.hK k s),fun M W h g n hn _ _ _ _=>by obtain ⟨T,h1,_⟩:=h;exact(h1.2.2.2 g n hn).2.2,fun _=>false⟩
def liftI (E:Env) (Q:Nat→Bool→Exit→St→Prop):Exit→Act→World→Prop:=fun e a W=>∃ k s U κ sv S,Sim (E.X k s U) κ sv S a W∧Q k s e S
def WI (E:Env) (c:Code) (Q:Nat→Bool→Exit→St→Prop) (k:Nat) (s:Bool) (S:St):Prop:=∀ U κ sv a W,Sim (E.X k s U) κ sv S a W→c.wpIn Fence.wide 0 E.Z.P (liftI E Q) a W
def WIL (E:Env) (ops:Array Oper) (l:List Oper) (Q:Nat→Bool→Exit→St→Prop) (k:Nat) (s:Bool) (S:St):Prop:=∀ U κ sv a W,Sim (E.X k s U) κ sv S a W→wpListIn Fence.wide 0 E.Z.P ops (liftI E Q) l a W
section
variable {E:Env}{Q:Nat→Bool→Exit→St→Prop}{k:Nat}{s:Bool}{S S1:St}
theorem WI_of {c:Code} (h:∀ U,W (E.X k s U) c (Q k s) S):WI E c Q k s S:=fun U κ sv a W hs=>by
 refine wpIn_mono (h U κ sv a W hs) ?_
 rintro e a' W' ⟨κ',sv',S',h1,h2⟩
 exact⟨k,s,U,κ',sv',S',h1,h2⟩
def thenI (E:Env) (y:Code) (Q:Nat→Bool→Exit→St→Prop):Nat→Bool→Exit→St→Prop
 |k,s,.normal,S=>WI E y Q k s S
 |k,s,e,S=>Q k s e S
def blockI (id:Nat) (Q:Nat→Bool→Exit→St→Prop):Nat→Bool→Exit→St→Prop
 |k,s,.exit i,S=>bif Nat.beq i id then Q k s .normal S else Q k s (.exit i) S
 |k,s,e,S=>Q k s e S
theorem WI_seq {x y:Code} (h:WI E x (thenI E y Q) k s S):WI E (.seq x y) Q k s S:=fun U κ sv a W hs=>by
 refine wpIn_seq (wpIn_mono (h U κ sv a W hs) ?_)
 rintro e a' W' ⟨k',s',U',κ',sv',S',h1,h2⟩
 cases e<;>first|exact h2 U' κ' sv' a' W' h1|exact⟨k',s',U',κ',sv',S',h1,h2⟩
theorem WI_block {id:Nat}{c:Code} (h:WI E c (blockI id Q) k s S):WI E (.block id c) Q k s S:=fun U κ sv a W hs=>by
 refine wpIn_block (wpIn_mono (h U κ sv a W hs) ?_)
 rintro e a' W' ⟨k',s',U',κ',sv',S',h1,h2⟩
 cases e with
 |exit i =>
  simp only[Exit.inBlock]
  simp only[blockI]at h2
  split
  ·rename_i e;subst e;rw[Nat.beq_refl]at h2;exact⟨k',s',U',κ',sv',S',h1,h2⟩
  ·rename_i e
   have:Nat.beq i id=false:=by
    cases hb:Nat.beq i id
    ·rfl
    ·exact absurd (Nat.eq_of_beq_eq_true hb) e
   rw[this]at h2;exact⟨k',s',U',κ',sv',S',h1,h2⟩
 |_=>exact⟨k',s',U',κ',sv',S',h1,h2⟩
theorem WI_loop {c:Code}{α:Type} (F:α→Nat×Bool×St) (inv:α→Prop) (μ:α→Nat) (x0:α) (h0:inv x0) (hs:(F x0).1=k∧(F x0).2.1=s∧∀ U,Wk (E.X k s U) S (F x0).2.2)
  (round:∀ x,inv x→WI E c (fun k' s' e S'=>match e with|.normal=>∃ x',inv x'∧μ x'<μ x∧(F x').1=k'∧(F x').2.1=s'∧∀ U,Wk (E.X k' s' U) S' (F x').2.2|e=>Q k' s' e S') (F x).1 (F x).2.1 (F x).2.2):WI E (.loop c) Q k s S:=by
 intro U κ sv a W hsim
 have key:∀ m x U κ sv a W,inv x→μ x<m→Sim (E.X (F x).1 (F x).2.1 U) κ sv (F x).2.2 a W→Code.roundsIn Fence.wide 0 E.Z.P c (liftI E Q) m a W:=by
  intro m
  induction m with
  |zero=>intro x U κ sv a W _ h;omega
  |succ m ih =>
   intro x U κ sv a W hi hm hx
   rw[roundsIn_succ]
   refine wpIn_mono (round x hi U κ sv a W hx) ?_
   rintro e a' W' ⟨k',s',U',κ',sv',S',h1,h2⟩
   cases e with
   |normal =>
    obtain ⟨x',hi',hm',rfl,rfl,hw⟩:=h2
    obtain ⟨κ2,sv2,hx'⟩:=hw U' κ' sv' a' W' h1
    exact ih x' U' κ2 sv2 a' W' hi' (by omega) hx'
   |_=>exact⟨k',s',U',κ',sv',S',h1,h2⟩
 obtain ⟨e1,e2,e3⟩:=hs
 obtain ⟨κ1,sv1,hx⟩:=e3 U κ sv a W hsim
 subst e1 e2
 exact wpIn_loop_rounds (μ x0+1) (key _ x0 U κ1 sv1 a W h0 (Nat.lt_succ_self _) hx)
theorem WI_wk {c:Code}{S':St} (hw:∀ U,Wk (E.X k s U) S S') (h:WI E c Q k s S'):WI E c Q k s S:=fun U κ sv a W hs =>
 let ⟨κ',sv',hs'⟩:=hw U κ sv a W hs
 h U κ' sv' a W hs'
theorem opIn_mono {F:Fence}{n:Nat}{P:Program}{o:Oper}{a:Act}{w:World}{K K':Act→World→Prop}{Q1 Q2:Exit→Act→World→Prop} (h:∀ a w,K a w→K' a w) (hq:∀ e a w,e≠.normal→Q1 e a w→Q2 e a w)
  (hh:o.wpIn F n P a w K Q1):o.wpIn F n P a w K' Q2:=by
 unfold Oper.wpIn at *
 refine ⟨hh.1,?_⟩
 have hh:=hh.2
 generalize (o.semAt F.round a.eval).run P w=r at *
 have lo:LetsOut Q1→LetsOut Q2:=fun ⟨a,w,h⟩=>⟨a,w,hq _ _ _ (by simp) h⟩
 cases r with
 |ok x w' =>
  cases x<;>simp only[Oper.uponIn]at hh ⊢ <;>
   first
    |exact h _ _ hh
    |exact⟨hh.1,CallsIn.mono hh.2 (fun e w'' he=>by cases e<;>first|exact h _ _ he|exact hq _ _ _ (by simp) he|exact lo he)⟩
    |exact⟨hh.1,RowsIn.mono hh.2 (fun _ _ he=>h _ _ he)⟩
    |exact⟨hh.1,RoundIn.mono hh.2 (fun e w'' he=>by cases e<;>first|exact h _ _ he|exact hq _ _ _ (by simp) he|exact lo he)⟩
 |halt x w'=>cases x<;>simp only[Oper.uponIn]at hh ⊢<;>first|exact hq _ _ _ (by simp) hh|exact hh
theorem wpListIn_append {F:Fence}{n:Nat}{P:Program}{ops:Array Oper}{Q1 Q2:Exit→Act→World→Prop}{l2:List Oper} (hn:∀ a w,Q1 .normal a w→wpListIn F n P ops Q2 l2 a w) (hq:∀ e a w,e≠.normal→Q1 e a w→Q2 e a w) :
  ∀ (l1:List Oper) (a:Act) (w:World),wpListIn F n P ops Q1 l1 a w→wpListIn F n P ops Q2 (l1++l2) a w
 |[],a,w,h=>hn a w h
 |o::l1,a,w,h=>by
  simp only[List.cons_append,wpListIn]at h ⊢
  split
  ·rename_i hw
   rw[if_pos hw]at h
   exact opIn_mono (fun a w h=>wpListIn_append hn hq l1 a w h) hq h
  ·rename_i hw
   rw[if_neg hw]at h
   exact⟨h.1,wpListIn_append hn hq l1 _ _ h.2⟩
theorem WI_region {id:Nat}{l:List Oper} (h:WIL E l.toArray l Q k s S):WI E (.region id l.toArray false) Q k s S:=fun U κ sv a W hs=>wpIn_region_lit (h U κ sv a W hs)
theorem WIL_of {ops:Array Oper}{l:List Oper} (h:∀ U,WL (E.X k s U) ops l (Q k s) S):WIL E ops l Q k s S:=fun U κ sv a W hs=>by
 have:=wpListIn_append (l2:=[]) (Q2:=liftI E Q) (fun a w ⟨κ',sv',S',h1,h2⟩=>⟨k,s,U,κ',sv',S',h1,h2⟩) (fun e a w _ ⟨κ',sv',S',h1,h2⟩=>⟨k,s,U,κ',sv',S',h1,h2⟩) l a W (h U κ sv a W hs)
 rwa [List.append_nil]at this
theorem WIL_part {ops:Array Oper} (l1 l2:List Oper) (h1:∀ U,WL (E.X k s U) ops l1 (fun e S'=>e=.normal∧WIL E ops l2 Q k s S') S):WIL E ops (l1++l2) Q k s S:=fun U κ sv a W hs =>
 wpListIn_append (fun a w ⟨κ',sv',S',h,_,h2⟩=>h2 U κ' sv' a w h) (fun e a w hne ⟨_,_,_,_,h,_⟩=>absurd h hne) l1 a W (h1 U κ sv a W hs)
mutual
inductive Giv (S:St) (ps:List Nat):D→D→Prop
 |conv (d d':D):(∀ (κ:Nat→Nat→Option Value) (γ:Nat→Nat) (sv:Nat→Value) (v:Value),Rep κ γ sv d v→∀ (κ':Nat→Nat→Option Value) (γ':Nat→Nat) (sv':Nat→Value),Rep κ' γ' sv' d' v)→Giv S ps d d'
 |os (s g E z n:Nat) (f:Nat→List D):S.γ s=g→S.σ s=.arr E z n f→s∈ps→(∀ i,i<n→∃ vs,scalL (f i)=some vs)→Giv S ps (.os s g) (.sl z n f)
 |bx (s g o:Nat) (l:List D):S.γ s=g→S.σ s=.box l→s∈ps→(∃ vs,scalL l=some vs)→Giv S ps (.bx s g o) (.rp l o)
 |agg (l l':List D):GivL S ps l l'→Giv S ps (.agg l) (.agg l')
 |fn (f:FuncId) (l l':List D):GivL S ps l l'→Giv S ps (.fn f l) (.fn f l')
inductive GivL (S:St) (ps:List Nat):List D→List D→Prop
 |nil:GivL S ps [] []
 |cons (d d':D) (l l':List D):Giv S ps d d'→GivL S ps l l'→GivL S ps (d::l) (d'::l')
end
def St.drop (S:St) (ps:List Nat):St:=⟨S.ρ,S.γ,fun s=>bif memN s ps then .none else S.σ s⟩
open Classical in
noncomputable def giveK (κ:Nat→Nat→Option Value) (G:Nat→Prop) (W:World):Nat→Nat→Option Value:=fun b o=>if G b then W.cell? ⟨b,o,none⟩ else κ b o
section
variable {κ':Nat→Nat→Option Value}{sv:Nat→Value}{S:St}{ps:List Nat}{W:World}{X:Ctx}
open Classical in
mutual
theorem Giv.rep (h:SimW X κ' sv S W) {κ:Nat→Nat→Option Value}{G:Nat→Prop} (hG:∀ p∈ps,∀ b,blk (S.σ p) (sv p)=some b→G b):∀ {d d':D}{v:Value},Giv S ps d d'→Rep κ' S.γ sv d v→Rep (giveK κ G W) γ0 sv0 d' v
 |_,_,_,.conv _ _ hc,hr=>hc _ _ _ _ hr _ _ _
 |_,_,v,.os s g E z n f hg hσ hm hf,hr=>by
  have hown:=h.own s
  rw[hσ]at hown
  obtain ⟨xs,e1,e2,e3,e4⟩:=hown
  cases hr with
  |os _ _ _ _ hh _ =>
   have hv:=hh hg.symm
   have hrow:∀ i,i<n→RepL (giveK κ G W) γ0 sv0 (f i) ((xs.drop (i * z)).take z):=fun i hi=>by
    obtain ⟨vs,hvs⟩:=hf i hi
    rw[scalL_eq hvs (e4 i hi)]
    exact scalL_rep hvs
   rcases e1.2 with ⟨hn,h0⟩|⟨b,off,cap,cur,hn,h0,h5,h6,h7,h8,h9⟩
   ·rw[hv,hn,h0];exact .sl0 _ _
   ·have hb:G b:=hG s hm b (by rw[hσ,hn];rfl)
    rw[hv,hn]
    refine .sl z n f b off cap (fun i=>(xs.drop (i * z)).take z) h6 e2 e3 hrow (fun i j u hi hj=>?_)
    unfold giveK
    rw[if_pos hb,cell_of_row W b (off+i * z+j) cur E (0,0) h5]
    rw[List.getElem?_take]at hj
    split at hj
    ·rename_i hjz
     rw[List.getElem?_drop]at hj
     rw[← h9,List.getElem?_take]at hj
     split at hj
     ·rw[List.getElem?_drop]at hj
      rw[show off+i * z+j=off+(i * z+j) by omega]
      simpa using hj
     ·cases hj
    ·cases hj
 |_,_,v,.bx s g o l hg hσ hm hf,hr=>by
  have hown:=h.own s
  rw[hσ]at hown
  obtain ⟨b,T,cs,e1,e2,e3,e4⟩:=hown
  cases hr with
  |bx _ _ _ _ _ hh _ =>
   obtain ⟨b',h5,rfl⟩:=hh hg.symm
   rw[e1]at h5
   simp only[Value.pointer.injEq,Option.some.injEq,Addr.mk.injEq,and_true]at h5
   subst h5
   have hb:G b:=hG s hm b (by rw[hσ,e1];rfl)
   obtain ⟨vs,hvs⟩:=hf
   have hc:=scalL_eq hvs e3
   have:=Rep.rp (κ:=giveK κ G W) (γ:=γ0) (sv:=sv0) l o b 0 cs e4.1 (by rw[hc];exact scalL_rep hvs) (fun j v hj=>by
    unfold giveK
    rw[if_pos hb,cell_of_row W b _ _ _ _ e2,Nat.zero_add];simpa using hj)
   simpa using this
 |_,_,v,.agg l l' hl,hr=>by
  cases hr with
  |agg _ vs hv=>exact .agg _ _ (GivL.rep h hG hl hv)
 |_,_,v,.fn f l l' hl,hr=>by
  cases hr with
  |fn _ _ vs hv=>exact .fn f _ _ (GivL.rep h hG hl hv)
theorem GivL.rep (h:SimW X κ' sv S W) {κ:Nat→Nat→Option Value}{G:Nat→Prop} (hG:∀ p∈ps,∀ b,blk (S.σ p) (sv p)=some b→G b):∀ {l l':List D}{vs:List Value},GivL S ps l l'→RepL κ' S.γ sv l vs→RepL (giveK κ G W) γ0 sv0 l' vs
 |_,_,_,.nil,hr=>by cases hr;exact .nil
 |_,_,_,.cons d d' l l' a b,hr=>by
  cases hr with
  |cons _ _ _ _ r1 r2=>exact .cons _ _ _ _ (Giv.rep h hG a r1) (GivL.rep h hG b r2)
end
end
open Classical in
theorem WIL_yield {ops:Array Oper}{o:Oper}{rest:List Oper}{x:Operand}{xs:Array Operand}{ts:Array TypeId}{d:Nat}{A:List D}{ps:List Nat} (ho:o.op=.call { callee:=.value x,args:=xs,argTypes:=ts }) (hg:o.guard=none) (hd:o.dst=some d)
  (hx:S.ev (E.X k false fun _=>False) x=.yl E.l) (hA:xs.toList.map (S.ev (E.X k false fun _=>False))=A) (hv:GivL S ps A (E.its k)) (hk:k<E.n)
  (hT:WIL E ops rest Q (k+1) false ((S.drop ps).set d (.bool true))) (hF:WIL E ops rest Q (k+1) true ((S.drop ps).set d (.bool false))):WIL E ops (o::rest) Q k false S:=fun U κ' sv a W hs=>by
 obtain ⟨M,⟨T,t1,t2,t3,t4⟩,hown⟩:=hs.wld.frame
 have hκ:∀ b o v,E.κ b o=some v→W.cell? ⟨b,o,none⟩=some v:=fun b o v hb=>hs.wld.imm b o v (hs.wld.le.cells b o v (E.hκ b o v hb))
 let G:Nat→Prop:=fun b=>∃ p∈ps,blk (S.σ p) (sv p)=some b
 have hav:=evs_rep hs xs.toList
 have hA':xs.toList.map (S.ev (E.X k false U))=A:=hA
 rw[hA']at hav
 have hgiv:Given T G E.κ (giveK E.κ G W) W (E.its k) (xs.toList.map a.eval):=by
  refine ⟨fun b ⟨p,hp,hb⟩=>t2 b (owns_lt (hs.wld.own p) hb) (hown p b hb),fun b o v hq=>?_,GivL.rep (G:=G) hs.wld (fun p hp b hb=>⟨p,hp,hb⟩) hv hav⟩
  unfold giveK at hq
  split at hq
  ·rename_i hgb;exact⟨.inr hgb,hq⟩
  ·exact⟨.inl hq,hκ b o v hq⟩
 obtain ⟨fn,tmps,assign,body,y1,y2⟩:=E.hY T k W _ G _ t1.1 hk hκ hgiv
 have hxv:a.eval x=.func (.yield E.l) #[] #[]:=by
  have:=hs.ev x
  have h2:S.ev (E.X k false U) x=.yl E.l:=hx
  rw[h2]at this
  generalize a.eval x=v at this
  cases this;rfl
 have hrun:(execOp a.eval o).run E.Z.P W=.ok (.round E.l fn tmps assign body) W:=by
  have h4:execOp a.eval o=Instr.yield E.l (xs.map a.eval):=by
   unfold execOp;rw[ho];simp[resolve,Deferred.ofValue,hxv,invoke]
  have h5:xs.map a.eval=(xs.toList.map a.eval).toArray:=by simp[← Array.toList_map]
  rw[h4,h5];exact y1
 refine wpListIn_plain hg fun K hK=>⟨fun _ _=>trivial,?_⟩
 rw[show Fence.wide.round=none from rfl,Oper.semAt_none,hrun]
 refine ⟨fun h=>(by simp[Fence.wide]at h),y2.mono ?_⟩
 rintro e W' ⟨hor,hkept⟩
 let U':Nat→Prop:=fun b=>U b∨(W.heap.size≤b∧b<W'.heap.size)∨G b
 have hlt:∀ b o v,κ' b o=some v→b<W.heap.size:=fun b o v hb=>by have:=World.block_lt_of_cell? W _ (hs.wld.imm b o v hb);simpa using this
 have hnG:∀ b o v,κ' b o=some v→¬ G b:=fun b o v hb ⟨p,hp,hpb⟩=>by rw[hs.wld.sep p b o hpb]at hb;cases hb
 have same:∀ b o v,κ' b o=some v→W'.cell? ⟨b,o,none⟩=some v:=by
  intro b o v hb
  by_cases e:b<E.w.heap.size
  ·exact hkept.cell b o v (E.hκ1 b o v e (hs.wld.old b o v (Nat.lt_of_lt_of_le e E.hw) hb))
  ·have hT:T b:=t3 b (by omega) (hlt b o v hb) (hs.wld.aw1 b o v hb)
   rw[World.cell?_of_block (hkept.mine b ⟨hT,hnG b o v hb⟩)];exact hs.wld.imm b o v hb
 have hdr:∀ t b,blk ((S.drop ps).σ t) (sv t)=some b→t ∉ ps∧blk (S.σ t) (sv t)=some b:=fun t b hb=>by
  have hb:blk (bif memN t ps then .none else S.σ t) (sv t)=some b:=hb
  cases hm:memN t ps with
  |true=>rw[hm]at hb;cases hb
  |false=>rw[hm]at hb;exact⟨fun h=>(by rw[memN_iff.2 h]at hm;cases hm),hb⟩
 have hnot:∀ t b,blk ((S.drop ps).σ t) (sv t)=some b→¬ G b:=fun t b hb ⟨p,hp,hpb⟩=>by
  obtain ⟨h1,h2⟩:=hdr t b hb
  exact h1 (hs.wld.inj t p b h2 hpb ▸ hp)
 have goon:∀ (s':Bool),E.K (k+1) s' (giveT T G) W'→SimW (E.X (k+1) s' U') κ' sv (S.drop ps) W':=fun s' hK'=>by
  obtain ⟨h1,h2,h3,h4,h5,_,h7,h8,h9,h10,h11,h12,h13,h14,h15⟩:=hs.wld
  refine ⟨same,fun t=>?_,fun t u b ht hu=>h3 t u b (hdr t b ht).2 (hdr u b hu).2,fun t b o ht=>h4 t b o (hdr t b ht).2,fun t b ht=>h5 t b (hdr t b ht).2,
   ⟨fun b=>(M b∧b<W.heap.size)∧¬ G b,⟨giveT T G,hK',fun b _ hM=>⟨t2 b hM.1.2 hM.1.1,hM.2⟩,fun b e1 e2 e3=>?_,fun b hP=>?_⟩,fun t b hb=>⟨⟨hown t b (hdr t b hb).2,owns_lt (h2 t) (hdr t b hb).2⟩,hnot t b hb⟩⟩,h7,h8,h9,Nat.le_trans h10 hkept.size,h11,fun b o v hb hU=>?_,fun t b hb hU=>?_,fun b hU=>?_,h15⟩
  ·show Owns _ _ _ _ _ t (bif memN t ps then .none else S.σ t)
   cases hm:memN t ps with
   |true=>trivial
   |false =>
    refine owns_mono (Le.refl _ _ _) rfl (fun b hb=>hkept.mine b ⟨t2 b (owns_lt (h2 t) hb) (hown t b hb),fun ⟨p,hp,hpb⟩=>?_⟩) (h2 t)
    rw[h3 t p b hb hpb]at hm
    rw[memN_iff.2 hp]at hm;cases hm
  ·by_cases e:b<W.heap.size
   ·exact⟨t3 b e1 e (fun h=>e3 (.inl h)),fun hgb=>e3 (.inr (.inr hgb))⟩
   ·exact absurd (.inr (.inl ⟨by omega,e2⟩)) e3
  ·obtain ⟨q1,q2,q3,q4,q5⟩:=t4 b hP
   have hg:¬ G b:=fun ⟨p,hp,hpb⟩=>q2 (hown p b hpb)
   exact⟨⟨q1,hg⟩,fun h=>q2 h.1.1,fun h=>by
    rcases h with h|⟨h,_⟩|h
    ·exact q3 h
    ·omega
    ·exact hg h,Nat.lt_of_lt_of_le q4 hkept.size,(hkept.mine b ⟨q1,hg⟩).trans q5⟩
  ·rcases hU with hU|⟨hU,_⟩|hU
   ·exact h12 b o v hb hU
   ·have:=hlt b o v hb;omega
   ·exact hnG b o v hb hU
  ·rcases hU with hU|⟨hU,_⟩|hU
   ·exact h13 t b (hdr t b hb).2 hU
   ·have:=owns_lt (h2 t) (hdr t b hb).2;omega
   ·exact hnot t b hb hU
  ·rcases hU with hU|⟨_,hU⟩|⟨p,hp,hpb⟩
   ·exact Nat.lt_of_lt_of_le (h14 b hU) hkept.size
   ·exact hU
   ·exact Nat.lt_of_lt_of_le (owns_lt (h2 p) hpb) hkept.size
 have dfr:∀ s',Dfr (E.X (k+1) s' U').nd (E.X (k+1) s' U').w0.heap.size a W':=fun s'=>by
  obtain ⟨Ds,e1,e2,e3,e4⟩:=hs.defers
  have:Ds=[]:=e4 rfl
  subst this
  exact .nil (by simpa using e1)
 have hKZ:KZ E (giveT T G) W':=⟨fun b hb=>t1.2.1 b hb.1,Nat.le_trans t1.2.2.1 hkept.size,fun g n hn=>by
  obtain ⟨q1,⟨v,q2⟩,q3⟩:=t1.2.2.2 g n hn
  exact⟨q1,⟨v,q2⟩,q3.eq (hkept.row g 0 v q2)⟩⟩
 rcases hor with ⟨rfl,hJ⟩|⟨rfl,hJ⟩
 ·show K (a.put o.dst (.bool true)) W'
  rw[hd]
  have h1:Sim (E.X (k+1) false U') κ' sv (S.drop ps) a W':=⟨hs.size,dfr false,hs.slot,goon false ⟨hJ,hKZ⟩⟩
  exact hK _ _ (hT U' κ' sv _ W' (h1.put (some d) (.bool true)))
 ·show K (a.put o.dst (.bool false)) W'
  rw[hd]
  have h1:Sim (E.X (k+1) true U') κ' sv (S.drop ps) a W':=⟨hs.size,dfr true,hs.slot,goon true ⟨hJ,hKZ⟩⟩
  exact hK _ _ (hF U' κ' sv _ W' (h1.put (some d) (.bool false)))
end
theorem it_fin (E:Env) {fn:Func} (hres:fn.results=#[]) {k:Nat}{s:Bool}{U:Nat→Prop}{κ':Nat→Nat→Option Value}{sv':Nat→Value}{S':St}{a':Act}{W':World} (hs:Sim (E.X k s U) κ' sv' S' a' W') (hk:s=false→k=E.n) (hk2:k≤E.n) :
  LeavesInM Fence.wide 0 E.Z.P fn a'.tmps (fun e W'=>(∃ v,e=.returned v)∧((∃ T,E.J T E.n W')∨(∃ T k,k≤E.n∧E.Jx T k W'))) a'.defers .returning W':=by
 obtain ⟨Ds,e1,_,_,e4⟩:=hs.defers
 have:Ds=[]:=e4 rfl
 subst this
 have hd:a'.defers=[]:=by simpa using e1
 obtain ⟨M,⟨T,t1,_⟩,_⟩:=hs.wld.frame
 rw[hd]
 refine ⟨.tuple #[],by simp[results,hres],⟨_,rfl⟩,?_⟩
 cases s with
 |false=>rw[← hk rfl];exact .inl ⟨T,t1.1⟩
 |true=>exact .inr ⟨T,k,hk2,t1.1⟩
structure ItG (Z:Seat) (gf:FuncId) (Pre:(Nat→Nat→Option Value)→World→List Value→(Nat→Prop)→Prop) (n:Nat) (its:Nat→List D):Prop where
 body:HasBody Z.P gf
 pureI:∀ k,k<n→PureL (its k)
 it:∀ (w:World) (κ:Nat→Nat→Option Value) (lb:List Value) (T0:Nat→Prop),Fits κ w→GlobOk Z κ w→Pre κ w lb T0→∀ (l:Nat) (J Jx:(Nat→Prop)→Nat→World→Prop),
  (∀ T k W W',J T k W→Step T W W'→J (growT T W W') k W') →
  (∀ T k W W',Jx T k W→Step T W W'→Jx (growT T W W') k W') →
  (∀ T k W vs G κi,J T k W→k<n→(∀ b o v,κ b o=some v→W.cell? ⟨b,o,none⟩=some v)→Given T G κ κi W (its k) vs→YieldAt Fence.wide 0 Z.P l vs.toArray W fun e W' =>
   ((e=.returned (.bool true)∧J (giveT T G) (k+1) W')∨(e=.returned (.bool false)∧Jx (giveT T G) (k+1) W'))∧Kept (giveT T G) κ W W') →
  J T0 0 w →
  CallsIn Fence.wide 0 Z.P gf (Value.func (.yield l) #[] #[]::lb).toArray w fun e W'=>(∃ v,e=.returned v)∧((∃ T,J T n W')∨(∃ T k,k≤n∧Jx T k W'))
def PreC (cap:List D) (κ:Nat→Nat→Option Value) (_:World) (lb:List Value) (T0:Nat→Prop):Prop:=RepL κ γ0 sv0 cap lb∧∀ b,¬ T0 b
theorem ItC.toG {Z:Seat}{f:FuncId}{cap:List D}{n:Nat}{its:Nat→List D} (h:ItC Z f cap n its):ItG Z f (PreC cap) n its :=
 ⟨h.body,h.pureI,fun w κ lb T0 hκ hglob hpre l J Jx hJ hJx hY h0=>h.it w κ lb hκ hglob hpre.1 l J Jx hJ hJx hY (by
  have e:T0=fun _=>False:=funext fun b=>propext ⟨fun hb=>hpre.2 b hb,fun hb=>hb.elim⟩
  rw[← e];exact h0)⟩
def PreB (l:List D) (κ:Nat→Nat→Option Value) (w:World) (lb:List Value) (T0:Nat→Prop):Prop:=∃ b T cs,lb=[.pointer (some ⟨b,0,none⟩)]∧(∀ o,κ b o=none)∧w.heap[b]?=some (.cells (List.toArray cs) T (0,0))∧RepL κ γ0 sv0 l cs∧∀ x,T0 x↔x=b
theorem row_ex {Z:Seat}{κ:Nat→Nat→Option Value}{w:World} (hglob:GlobOk Z κ w):∀ g n,Z.gsz g=some n→g<w.heap.size∧(∃ v,κ g 0=some v)∧RowSz w g n:=fun g n hn=>by
 obtain ⟨l1,e1,e2⟩:=Z.gszOk g n hn
 obtain ⟨_,u,e3,e4⟩:=hglob.1 g l1 e1
 obtain ⟨cs,T,fr,e5,e6⟩:=hglob.2 g n hn
 refine ⟨(Array.getElem?_eq_some_iff.1 e5).1,?_,cs,T,fr,e5,e6⟩
 cases e3 with
 |nil=>exact absurd rfl e2
 |cons d v l vs _ _=>exact⟨v,e4 0 v rfl⟩
theorem itG_intro {Z : Seat} {f : FuncId} {fn : Func} {c : Code} {cap : List D} {n : Nat} {its : Nat → List D} (hf : Z.P.funcs[f]? = some fn) (hb : fn.body = some c) (hname : (fn.name == "runtime.NumGoroutine") = false) (hn : Nat.ble (cap.length + 1) fn.ntmps = true) (hI : ∀ k, k < n → PureL (its k)) (hres : fn.results = #[])
  (h:∀ E:Env,E.Z=Z→E.nt=fn.ntmps→E.n=n→E.its=its→WI E c (fun k s e _=>(e=.normal∨e=.ret)∧(s=false→k=n)∧k≤n) 0 false (St.init (.yl E.l::cap))):ItG Z f (PreC cap) n its:=by
 refine ⟨⟨fn,c,hf,hb,hname⟩,hI,fun w κ lb T0 hκ hglob hpre l J Jx hJ hJx hY h0=>?_⟩
 obtain ⟨hrep,hT0⟩:=hpre
 refine callsIn_of_wp_marks hf hb trivial ?_ rfl
 have hlen:cap.length+1≤fn.ntmps:=Nat.le_of_ble_eq_true hn
 have hal:=hrep.length
 let E:Env:=⟨Z,fn.ntmps,w,κ,l,n,its,J,Jx,w,κ,fun _=>False,fun _=>0,fun _=>Go.undef,fun _=>False,Nat.le_refl _,fun _ _ h=>h.elim,fun _ _ _ h=>h,fun _ _ _ _ h=>h,hJ,hJx,hY⟩
 have hrep':RepL κ γ0 sv0 (.yl l::cap) (Value.func (.yield l) #[] #[]::lb):=.cons _ _ _ _ (.yl _) hrep
 have hz0:=row_ex hglob
 have hsim:Sim (E.X 0 false fun _=>False) κ sv0 (St.init (.yl l::cap)) { tmps:=(Value.func (.yield l) #[] #[]::lb).toArray++Array.replicate (fn.ntmps - (Value.func (.yield l) #[] #[]::lb).toArray.size) Go.undef,defers:=[] } w:=by
  refine ⟨by simp[Env.X,E];omega,Dfr.nil rfl,fun i _=>slot_init hrep' _ i,?_⟩
  exact⟨hκ,fun _=>trivial,(fun s t b hs=>by cases hs),(fun s b o hs=>by cases hs),(fun s b hs=>by cases hs),⟨fun _=>False,⟨T0,⟨h0,fun b h=>(hT0 b h).elim,Nat.le_refl _,hz0⟩,fun _ _ h=>h.elim,fun b h1 h2 _=>(by have h1:w.heap.size≤b:=h1;omega),fun b h=>h.elim⟩,fun s b hs=>by cases hs⟩,hglob.1,fun b o v _ hk=>hk,(fun b hb=>by cases hb),Nat.le_refl _,
   ⟨fun _ _ _ h=>h,fun _=>Nat.zero_le _,fun _ _=>rfl⟩,fun _ _ _ _ h=>h,fun _ _ _ h=>h,fun _ h=>h.elim,gz_init hglob (fun _ e=>by cases e) (fun _ e=>e.elim)⟩
 refine wpIn_mono (h E rfl rfl rfl rfl _ κ sv0 _ w hsim) ?_
 rintro e a' W' ⟨k,s,U,κ',sv',S',hs,he,hk,hk2⟩
 rcases he with rfl|rfl<;>exact it_fin E hres hs hk hk2
theorem itG_introB {Z : Seat} {f : FuncId} {fn : Func} {c : Code} {m : List D} {n : Nat} {its : Nat → List D} (hf : Z.P.funcs[f]? = some fn) (hb : fn.body = some c) (hname : (fn.name == "runtime.NumGoroutine") = false) (hn : Nat.ble 2 fn.ntmps = true) (hm : PureL m) (hmc : allCell m = true) (hI : ∀ k, k < n → PureL (its k)) (hres : fn.results = #[])
  (h:∀ E:Env,E.Z=Z→E.nt=fn.ntmps→E.n=n→E.its=its→WI E c (fun k s e _=>(e=.normal∨e=.ret)∧(s=false→k=n)∧k≤n) 0 false ⟨(St.init [.yl E.l,.bx 1 1 0]).ρ,upd (fun _=>0) 1 1,upd (fun _=>.none) 1 (.box m)⟩):ItG Z f (PreB m) n its:=by
 refine ⟨⟨fn,c,hf,hb,hname⟩,hI,fun w κ lb T0 hκ hglob hpre l J Jx hJ hJx hY h0=>?_⟩
 obtain ⟨b,TT,cs,rfl,hκb,hhb,hcs,hT0⟩:=hpre
 refine callsIn_of_wp_marks hf hb trivial ?_ rfl
 have hlen:2≤fn.ntmps:=Nat.le_of_ble_eq_true hn
 let E:Env:=⟨Z,fn.ntmps,w,κ,l,n,its,J,Jx,w,κ,fun x=>x=b,fun _=>0,fun _=>Go.undef,fun _=>False,Nat.le_refl _,fun x o e=>by rw[e];exact hκb o,fun _ _ _ h=>h,fun _ _ _ _ h=>h,hJ,hJx,hY⟩
 let sv:Nat→Value:=upd sv0 1 (.pointer (some ⟨b,0,none⟩))
 let γ:Nat→Nat:=upd (fun _=>0) 1 1
 have hrep':RepL κ γ sv [.yl l,.bx 1 1 0] [Value.func (.yield l) #[] #[],Value.pointer (some ⟨b,0,none⟩)] :=
  .cons _ _ _ _ (.yl _) (.cons _ _ _ _ (.bx _ _ _ _ (Nat.le_refl _) (fun _=>⟨b,rfl,rfl⟩) rfl) .nil)
 have hσ:∀ s b',blk (upd (fun _=>Own.none) 1 (.box m) s) (sv s)=some b'→s=1∧b'=b:=by
  intro s b' hs
  by_cases e:s=1
  ·subst e;rw[upd_same]at hs;simp only[sv,upd_same,blk,Option.some.injEq]at hs;exact⟨rfl,hs.symm⟩
  ·rw[upd_ne _ _ _ _ e]at hs;cases hs
 have hz0:=row_ex hglob
 have hsim:Sim (E.X 0 false fun _=>False) κ sv ⟨(St.init [.yl l,.bx 1 1 0]).ρ,γ,upd (fun _=>Own.none) 1 (.box m)⟩ { tmps:=[Value.func (.yield l) #[] #[],Value.pointer (some ⟨b,0,none⟩)].toArray++Array.replicate (fn.ntmps - [Value.func (.yield l) #[] #[],Value.pointer (some ⟨b,0,none⟩)].toArray.size) Go.undef,defers:=[] } w:=by
  refine ⟨by simp[Env.X,E];omega,Dfr.nil rfl,fun i _=>slot_init hrep' _ i,?_⟩
  refine ⟨hκ,fun s=>?_,(fun s t b' hs ht=>(hσ s b' hs).1.trans (hσ t b' ht).1.symm),(fun s b' o hs=>by rw[(hσ s b' hs).2];exact hκb o),(fun s b' hs=>.inr (.inr (hσ s b' hs).2)),⟨fun x=>x=b,⟨T0,⟨h0,fun x h=>.inr ((hT0 x).1 h),Nat.le_refl _,hz0⟩,fun x _ h=>(hT0 x).2 h,fun b' h1 h2 _=>(by have h1:w.heap.size≤b':=h1;omega),fun b h=>h.elim⟩,fun s b' hs=>(hσ s b' hs).2⟩,fun g l1 hg=>?_,fun b o v _ hk=>hk,(fun b hb=>by cases hb),Nat.le_refl _,
   ⟨fun _ _ _ h=>h,fun _=>Nat.zero_le _,fun s (e:0=γ s)=>upd_ne _ _ _ _ (fun e2=>by subst e2;simp only[γ,upd_same]at e;cases e)⟩,fun _ _ _ _ h=>h,fun _ _ _ h=>h,fun _ h=>h.elim,gz_init hglob (fun _ e=>by cases e) (fun b' e o=>by have e:b'=b:=e;rw[e];exact hκb o)⟩
  ·by_cases e:s=1
   ·subst e
    exact⟨b,TT,cs,rfl,hhb,hcs.pure (fun _ _ _ h=>h) hm,.pure hmc hm⟩
   ·show Owns _ _ _ _ _ s (upd (fun _=>Own.none) 1 (.box m) s)
    rw[upd_ne _ _ _ _ e];trivial
  ·obtain ⟨h1,u,h2,h3⟩:=hglob.1 g l1 hg
   exact⟨h1,u,h2.pure (fun _ _ _ h=>h) (Z.globPure g l1 hg),h3⟩
 refine wpIn_mono (h E rfl rfl rfl rfl _ κ sv _ w hsim) ?_
 rintro e a' W' ⟨k,s,U,κ',sv',S',hs,he,hk,hk2⟩
 rcases he with rfl|rfl<;>exact it_fin E hres hs hk hk2
theorem itC_intro {Z : Seat} {f : FuncId} {fn : Func} {c : Code} {cap : List D} {n : Nat} {its : Nat → List D} (hf : Z.P.funcs[f]? = some fn) (hb : fn.body = some c) (hname : (fn.name == "runtime.NumGoroutine") = false) (hn : Nat.ble (cap.length + 1) fn.ntmps = true) (hA : PureL cap) (hI : ∀ k, k < n → PureL (its k)) (hres : fn.results = #[])
  (h:∀ E:Env,E.Z=Z→E.nt=fn.ntmps→E.n=n→E.its=its→WI E c (fun k s e _=>(e=.normal∨e=.ret)∧(s=false→k=n)∧k≤n) 0 false (St.init (.yl E.l::cap))):ItC Z f cap n its:=by
 have g:=itG_intro hf hb hname hn hI hres h
 exact⟨g.body,g.pureI,hA,fun w κ lb hκ hglob hrep l J Jx hJ hJx hY h0=>g.it w κ lb (fun _=>False) hκ hglob ⟨hrep,fun _ h=>h⟩ l J Jx hJ hJx hY h0⟩
section
variable {E:Env}{Q:Nat→Bool→Exit→St→Prop}{k:Nat}{s:Bool}{S:St}
theorem WI_ofR {id:Nat}{ops:Array Oper}{b:Bool} (h:∀ U,W (E.X k s U) (.region id ops b) (Q k s) S):WI E (.region id ops b) Q k s S:=WI_of h
theorem WI_skip (h:Q k s .normal S):WI E .skip Q k s S:=fun U κ sv _ _ hs=>wpIn_skip ⟨k,s,U,κ,sv,S,hs,h⟩
theorem WI_exit {id:Nat} (h:Q k s (.exit id) S):WI E (.exit id) Q k s S:=fun U κ sv _ _ hs=>wpIn_exit ⟨k,s,U,κ,sv,S,hs,h⟩
theorem WI_ret (h:Q k s .ret S):WI E .ret Q k s S:=fun U κ sv _ _ hs=>wpIn_ret ⟨k,s,U,κ,sv,S,hs,h⟩
end
section
variable {X:Ctx}{S:St}
theorem wk_freeze_cap (i j:Nat) {s g o:Nat}{f:FuncId}{c c' l:List D} (hX:X.ext=none∧∀ b,¬ X.ex b) (h:S.ρ i=.fn f c) (hj:nth c j=some (.bx s g o)) (hg:S.γ s=g) (hσ:S.σ s=.box l) (hc':overN c j [.rp l o]=some c') :
  Wk X S ⟨upd S.ρ i (.fn f c'),S.γ,upd S.σ s .none⟩:=fun κ sv a w hs=>by
 have hle:=freeze_le hs.wld s
 obtain ⟨rfl,hlen⟩:=overN_eq hc'
 have hnew:∀ b,blk (S.σ s) (sv s)=some b→X.w0.heap.size≤b:=fun b hb=>(hs.wld.frsh s b hb).resolve_right (fun h=>h.elim (fun h=>by rw[hX.1]at h;cases h) (hX.2 b))
 refine ⟨_,sv,⟨hs.size,hs.defers,fun k hk=>?_,hs.wld.freeze s hnew _⟩⟩
 by_cases e:k=i
 ·subst e
  simp only[upd_same]
  have h1:=hs.slot k hk
  rw[h]at h1
  generalize a.tmps.getD k Go.undef=v at h1
  cases h1 with
  |fn _ _ vs hl =>
   rw[nth_eq]at hj
   obtain ⟨vj,hvj,hrj⟩:=hl.get hj
   have hjl:j<vs.length:=(List.getElem?_eq_some_iff.1 hvj).1
   have hvs:vs=vs.take j++[vj]++vs.drop (j+1):=by
    have h3:vs[j]=vj:=by simpa[List.getElem?_eq_getElem hjl] using hvj
    rw[← h3,List.append_assoc,List.singleton_append,List.getElem_cons_drop,List.take_append_drop]
   rw[hvs]
   refine .fn _ _ _ ((((hl.take j).mono hle).append (.cons _ _ _ _ ?_ .nil)).append ((hl.drop _).mono hle))
   have hown:=hs.wld.own s
   rw[hσ]at hown
   obtain ⟨b,T,cs,e1,e2,e3,e4⟩:=hown
   cases hrj with
   |bx _ _ _ _ _ hh _ =>
    obtain ⟨b',h5,h6⟩:=hh hg.symm
    rw[e1]at h5
    simp only[Value.pointer.injEq,Option.some.injEq,Addr.mk.injEq,and_true]at h5
    subst h5
    rw[h6]
    have:=Rep.rp (κ:=fun b o=>if blk (S.σ s) (sv s)=some b then w.cell? ⟨b,o,none⟩ else κ b o) (γ:=S.γ) (sv:=sv) l o b 0 cs e4.1 (e3.mono hle) (fun j v hj=>by
     have hb:blk (S.σ s) (sv s)=some b:=by rw[hσ,e1];rfl
     simp only[hb,if_true]
     rw[cell_of_row w b _ _ _ _ e2,Nat.zero_add];simpa using hj)
    simpa using this
 ·simp only[upd_ne _ _ _ _ e];exact(hs.slot k hk).mono hle
end
end Go.Ab
namespace Go.Ab
open Go Go.RowKit
section
variable {X:Ctx}{Q:Exit→St→Prop}{S T S0:St}{ops:Array Oper}{o:Oper}{rest:List Oper}{E:List Ent}{V:List Vl}
theorem run_callv {P:Program}{f:FuncId} (h:HasBody P f) {a:Act}{w:World}{x:Operand}{xs:Array Operand}{ts:Array TypeId}{lb:List Value} (ho:o.op=.call { callee:=.value x,args:=xs,argTypes:=ts }) (hx:a.eval x=.func (.func f) #[] lb.toArray) :
  (execOp a.eval o).run P w=.ok (.enter f (xs.toList.map a.eval++lb).toArray) w:=by
 obtain ⟨fn,c,h1,h2,h3⟩:=h
 have h4:execOp a.eval o=callFunc f (#[]++xs.map a.eval++lb.toArray):=by
  unfold execOp;rw[ho];simp[resolve,Deferred.ofValue,hx,invoke]
 rw[h4]
 have h5:(#[]++xs.map a.eval++lb.toArray)=(xs.toList.map a.eval++lb).toArray:=by simp[← Array.toList_map]
 rw[h5]
 have h6 : ¬ fn.name = "runtime.NumGoroutine" := by simpa using h3
 simp[callFunc,h1,h2,h6]
theorem ev_fn {κ:Nat→Nat→Option Value}{sv:Nat→Value}{a:Act}{w:World} (hs:Sim X κ sv S a w) {x:Operand}{f:FuncId}{c:List D} (h:S.ev X x=.fn f c):∃ lb:List Value,a.eval x=.func (.func f) #[] lb.toArray∧RepL κ S.γ sv c lb:=by
 have h1:=hs.ev x
 rw[h]at h1
 generalize a.eval x=v at h1
 cases h1 with
 |fn _ _ vs hl=>exact⟨vs,rfl,hl⟩
theorem call_scalL {κ:Nat→Nat→Option Value}{sv:Nat→Value}{a:Act}{w:World} (hs:Sim X κ sv S a w) {f:FuncId}{L A:List D}{vs:List Value}{R:D}{v0:Value} (hc:Contract X.Z f A R) (hr:RepL κ S.γ sv L vs) (hA:FzL S L A) (hR:scal R=some v0) :
  Calls X.Z.P f vs.toArray w fun e w''=>e=.returned v0∧Below w.heap.size w w'':=by
 let κ':Nat→Nat→Option Value:=fun b o=>w.cell? ⟨b,o,none⟩
 have hle:Le κ κ' S.γ S.γ sv sv:=⟨fun b o v hk=>hs.wld.imm b o v hk,fun _=>Nat.le_refl _,fun _ _=>rfl⟩
 have hr2:=hA.rep hs.wld hle (fun b o v h=>h) hr
 refine (hc.calls w κ' _ (fun b o v h=>h) ⟨fun g l hg=>?_,(Sim.globOk hs.wld).2⟩ (hr2.pure (fun _ _ _ h=>h) hc.pureA)).mono ?_
 ·obtain ⟨h1,u,h2,h3⟩:=(Sim.globOk hs.wld).1 g l hg
  exact⟨h1,u,h2.mono ⟨fun b o v hk=>hs.wld.imm b o v hk,fun _=>Nat.le_refl _,fun _ _=>rfl⟩,fun j v hj=>hs.wld.imm _ _ _ (h3 j v hj)⟩
 ·rintro e w'' ⟨v,rfl,hv,hb2⟩
  rw[scal_eq hR hv]
  exact⟨rfl,hb2⟩
end
section
variable {X:Ctx}{Q:Exit→St→Prop}{S T S0:St}{ops:Array Oper}{o:Oper}{rest:List Oper}{E:List Ent}{V:List Vl}{x y:Operand}
theorem q_mf {cs:Array Operand}{f:FuncId} (ho:o.op=.makeFunc (.func f) cs #[]):QOp X o S (.mf f (cs.toList.map (S.ev X))):=fun κ sv a w hs=>by
 refine ⟨.func (.func f) (cs.map a.eval) #[],?_,fun w' _=>by simp[execOp,ho,Instr.makeFunc]⟩
 have:=Rep.mf (κ:=κ) (γ:=S.γ) (sv:=sv) f _ _ (evs_rep hs cs.toList)
 have e:(cs.toList.map a.eval).toArray=cs.map a.eval:=by simp[← Array.toList_map]
 rwa [e]at this
theorem run_callm {P:Program}{f:FuncId} (h:HasBody P f) {a:Act}{w:World}{xs:Array Operand}{ts:Array TypeId}{lb:List Value} (ho:o.op=.call { callee:=.value x,args:=xs,argTypes:=ts }) (hx:a.eval x=.func (.func f) lb.toArray #[]) :
  (execOp a.eval o).run P w=.ok (.enter f (lb++xs.toList.map a.eval).toArray) w:=by
 obtain ⟨fn,c,h1,h2,h3⟩:=h
 have h4:execOp a.eval o=callFunc f (lb.toArray++xs.map a.eval++#[]):=by
  unfold execOp;rw[ho];simp[resolve,Deferred.ofValue,hx,invoke]
 rw[h4]
 have h5:(lb.toArray++xs.map a.eval++#[])=(lb++xs.toList.map a.eval).toArray:=by simp[← Array.toList_map]
 rw[h5]
 have h6 : ¬ fn.name = "runtime.NumGoroutine" := by simpa using h3
 simp[callFunc,h1,h2,h6]
theorem ev_mf {κ:Nat→Nat→Option Value}{sv:Nat→Value}{a:Act}{w:World} (hs:Sim X κ sv S a w) {f:FuncId}{c:List D} (h:S.ev X x=.mf f c):∃ lb:List Value,a.eval x=.func (.func f) lb.toArray #[]∧RepL κ S.γ sv c lb:=by
 have h1:=hs.ev x
 rw[h]at h1
 generalize a.eval x=v at h1
 cases h1 with
 |mf _ _ vs hl=>exact⟨vs,rfl,hl⟩
theorem array_row {P:Program}{T:TypeId}{r:TRow} (hok:rowOk P T r=true) (hk:Nat.beq r.k 2=true):P.underlying T=some (.array r.ln r.el):=by
 obtain ⟨i,d,_,hd,_,_,_,h4⟩:=row_info hok
 have hk2:=Nat.eq_of_beq_eq_true hk
 cases d<;>try (simp only at h4;omega)
 obtain ⟨_,h5,h6⟩:=h4
 rw[hd,h5,h6]
theorem q_iab {T:TypeId}{r q:TRow}{s g j:Nat}{k:Int} (ho:o.op=.indexAddr T x y) (hx:S.ev X x=.bx s g j) (hg:S.γ s=g) (hy:S.ev X y=.int .i64 k) (h0:0≤k)
  (hr:nth X.Z.tab T=some r) (hk:Nat.beq r.k 2=true) (h1:k<r.ln) (hq:nth X.Z.tab r.el=some q) (hq9:Nat.beq q.k 9=false):QOp X o S (.bx s g (j+k.toNat * q.sz)):=fun κ sv a w hs=>by
 have hok:=X.Z.tabOk _ _ hr (by intro e;rw[e]at hk;cases hk)
 have hokq:=X.Z.tabOk _ _ hq (by intro e;rw[e]at hq9;cases hq9)
 have hyv:=rep_int (hy ▸ hs.ev y)
 obtain ⟨b,e1,e2⟩:=live_bx hs hx hg
 exact⟨.pointer (some ⟨b,j+k.toNat * q.sz,none⟩),.bx _ _ _ _ (by omega) (fun _=>⟨b,e1,rfl⟩) rfl,fun w' _=>by
  simp[execOp,ho,e2,hyv,Instr.indexAt,asIntOf,run_underlying (array_row hok hk),Instr.sureAddr,h0,h1,run_size_row hokq,addr_add]⟩
theorem q_idx {T:TypeId}{r q:TRow}{l m:List D}{k:Int} (ho:o.op=.index T x y) (hx:S.ev X x=.agg l) (hy:S.ev X y=.int .i64 k) (h0:0≤k)
  (hr:nth X.Z.tab T=some r) (hk:Nat.beq r.k 2=true) (h1:k<r.ln) (hq:nth X.Z.tab r.el=some q) (hqk:(Nat.beq q.k 1 || Nat.beq q.k 2)=true) (hm:takeN q.sz (dropN (k.toNat * q.sz) l)=some m):QOp X o S (.agg m):=fun κ sv a w hs=>by
 have hok:=X.Z.tabOk _ _ hr (by intro e;rw[e]at hk;cases hk)
 have hokq:=X.Z.tabOk _ _ hq (by intro e;rw[e]at hqk;simp at hqk)
 have hyv:=rep_int (hy ▸ hs.ev y)
 obtain ⟨vs,e1,hl⟩:=ev_agg hs hx
 obtain ⟨rfl,hlen⟩:=takeN_eq hm
 rw[dropN_eq]at hlen ⊢
 obtain ⟨iq,dq,hiq,hdq,hsq,_⟩:=row_info hokq
 refine ⟨.agg ((vs.drop (k.toNat * q.sz)).take q.sz).toArray,.agg _ _ ((hl.drop _).take _),fun w' _=>?_⟩
 have hagg:(isAgg r.el).run X.Z.P w'=.ok true w':=by rw[run_isAgg hdq,aggOf_k hokq,hqk]
 have hext:vs.toArray.extract (k.toNat * q.sz) (k.toNat * q.sz+q.sz)=((vs.drop (k.toNat * q.sz)).take q.sz).toArray:=by
  simp[List.extract_eq_drop_take]
 simp[execOp,ho,e1,hyv,Instr.index,asIntOf,run_underlying (array_row hok hk),h0,h1,run_size_row hokq,part,hagg,hext]
end
end Go.Ab
namespace Go.Ab
open Go Go.RowKit
mutual
def renO (p g:Nat):D→D
 |.os _ _=>.os p g
 |.agg l=>.agg (renL p g l)
 |d=>d
def renL (p g:Nat):List D→List D
 |[]=>[]
 |d::l=>renO p g d::renL p g l
end
mutual
inductive PO:D→Prop
 |pure (d:D):Pure d→PO d
 |os (s g:Nat):PO (.os s g)
 |agg (l:List D):POL l→PO (.agg l)
inductive POL:List D→Prop
 |nil:POL []
 |cons (d:D) (l:List D):PO d→POL l→POL (d::l)
end
section
variable {κ κ':Nat→Nat→Option Value}{γ γ':Nat→Nat}{sv sv':Nat→Value}
mutual
theorem rep_ren (hκ:∀ b o v,κ b o=some v→κ' b o=some v) {p g p' g':Nat} (hg:γ p=g) (hg':γ' p'=g') (hv:sv' p'=sv p):∀ {d:D}{v:Value},PO d→Rep κ γ sv (renO p g d) v→Rep κ' γ' sv' (renO p' g' d) v
 |.os s0 g0,v,_,hr=>by
  simp only[renO]at hr ⊢
  cases hr with
  |os _ _ _ h1 h2 h3=>exact .os _ _ _ (Nat.le_of_eq hg'.symm) (fun _=>by rw[hv];exact h2 hg.symm) h3
 |.agg l,v,hp,hr=>by
  simp only[renO]at hr ⊢
  cases hr with
  |agg _ vs hl=>exact .agg _ _ (repL_ren hκ hg hg' hv (by
    cases hp with
    |pure _ hp=>exact pol_of (by cases hp;assumption)
    |agg _ hp=>exact hp) hl)
 |.int k n,v,hp,hr=>by cases hr;exact .int _ _
 |.bool b,v,hp,hr=>by cases hr;exact .bool _
 |.str s,v,hp,hr=>by cases hr;exact .str _
 |.tup l,v,hp,hr=>by cases hp with|pure _ hp=>exact Rep.pure hκ hr hp
 |.sl z n f,v,hp,hr=>by cases hp with|pure _ hp=>exact Rep.pure hκ hr hp
 |.nil,v,hp,hr=>by cases hr;exact .nil
 |.rp l o,v,hp,hr=>by cases hp with|pure _ hp=>exact Rep.pure hκ hr hp
 |.bx s g o,v,hp,hr=>by cases hp with|pure _ hp=>cases hp
 |.mb s g T,v,hp,hr=>by cases hp with|pure _ hp=>cases hp
 |.op s g z i o,v,hp,hr=>by cases hp with|pure _ hp=>cases hp
 |.ow s g z a m,v,hp,hr=>by cases hp with|pure _ hp=>cases hp
 |.fn f c,v,hp,hr=>by cases hp with|pure _ hp=>exact Rep.pure hκ hr hp
 |.yl l,v,hp,hr=>by cases hr;exact .yl _
 |.mf f c,v,hp,hr=>by cases hp with|pure _ hp=>exact Rep.pure hκ hr hp
 |.one,v,_,hr=>by cases hr;exact .one _ (by assumption)
 |.lk c,v,_,hr=>by cases hr;exact .lk _ _ (by assumption)
 |.undef,v,_,_=>.undef v
theorem repL_ren (hκ:∀ b o v,κ b o=some v→κ' b o=some v) {p g p' g':Nat} (hg:γ p=g) (hg':γ' p'=g') (hv:sv' p'=sv p):∀ {l:List D}{vs:List Value},POL l→RepL κ γ sv (renL p g l) vs→RepL κ' γ' sv' (renL p' g' l) vs
 |[],vs,_,hr=>by simp only[renL]at hr ⊢;cases hr;exact .nil
 |d::l,vs,hp,hr=>by
  simp only[renL]at hr ⊢
  cases hr with
  |cons _ v _ vs h1 h2 =>
   cases hp with
   |cons _ _ p1 p2=>exact .cons _ _ _ _ (rep_ren hκ hg hg' hv p1 h1) (repL_ren hκ hg hg' hv p2 h2)
theorem pol_of:∀ {l:List D},(∀ d∈l,Pure d)→POL l
 |[],_=>.nil
 |d::l,h=>.cons d l (.pure d (h d (List.mem_cons_self ..))) (pol_of fun x hx=>h x (List.mem_cons_of_mem _ hx))
end
end
structure ContractO (Z:Seat) (f:FuncId) (A:List D) (R:D) (E z n:Nat) (el:Nat→List D):Prop where
 pureA:PureL A
 poR:PO R
 pureE:∀ i,i<n→PureL (el i)
 body:HasBody Z.P f
 calls:∀ (w:World) (κ:Nat→Nat→Option Value) (args:List Value),Fits κ w→GlobOk Z κ w→RepL κ γ0 sv0 A args →
  Calls Z.P f args.toArray w fun e w'=>∃ v sl κ',e=.returned v∧Rep κ' (fun _=>1) (fun _=>sl) (renO 0 1 R) v∧(∀ b o u,κ b o=some u→κ' b o=some u)∧(∀ b o u,b<w.heap.size→κ' b o=some u→κ b o=some u) ∧
   (∀ b o u,κ' b o=some u→w'.cell? ⟨b,o,none⟩=some u)∧sl.oneCell'=true∧Owns w.heap.size κ' (fun _=>1) (fun _=>sl) w' 0 (.arr E z n el)∧(∀ b,blk (.arr E z n el) sl=some b→∀ o,κ' b o=none)∧Below w.heap.size w w'
def FinO (X:Ctx) (rs:List ResultVar) (R:D) (E z n:Nat) (el:Nat→List D):Exit→St→Prop
 |.normal,S|.ret,S=>∃ s g,S.γ s=g∧S.σ s=.arr E z n el∧∃ ds,ResL X S rs ds∧tupOf ds=renO s g R
 |_,_=>False
theorem contractO_intro {Z : Seat} {f : FuncId} {fn : Func} {c : Code} {A : List D} {R : D} {E z n : Nat} {el : Nat → List D} (hf : Z.P.funcs[f]? = some fn) (hb : fn.body = some c) (hname : (fn.name == "runtime.NumGoroutine") = false) (hn : Nat.ble A.length fn.ntmps = true) (hA : PureL A) (hR : PO R) (hE : ∀ i, i < n → PureL (el i))
  (h:∀ w κ,W (Ctx.plain Z fn.ntmps w κ none) c (FinO (Ctx.plain Z fn.ntmps w κ none) fn.results.toList R E z n el) (St.init A)):ContractO Z f A R E z n el:=by
 refine ⟨hA,hR,hE,⟨fn,c,hf,hb,hname⟩,fun w κ args hκ hglob hrep=>?_⟩
 refine (callsIn_wide (n:=0)).1 (callsIn_of_wp_marks hf hb trivial ?_ rfl)
 have hlen:A.length≤fn.ntmps:=Nat.le_of_ble_eq_true hn
 have hal:=hrep.length
 have hsim:Sim (Ctx.plain Z fn.ntmps w κ none) κ sv0 (St.init A) { tmps:=args.toArray++Array.replicate (fn.ntmps - args.toArray.size) Go.undef,defers:=[] } w:=by
  refine ⟨by simp[Ctx.plain];omega,Dfr.nil rfl,fun i _=>slot_init hrep _ i,?_⟩
  exact⟨hκ,fun _=>trivial,(fun s t b hs=>by cases hs),(fun s b o hs=>by cases hs),(fun s b hs=>by cases hs),⟨fun _=>False,⟨Frame.refl _ _,fun _ h=>h.elim⟩,fun s b hs=>by cases hs⟩,hglob.1,fun b o v _ hk=>hk,(fun b hb=>by cases hb),Nat.le_refl _,⟨fun _ _ _ h=>(by cases h),fun _=>Nat.zero_le _,fun _ _=>rfl⟩,fun _ _ _ _ h=>h,fun _ _ _ h=>h,fun _ h=>h.elim,gz_init hglob (fun _ e=>by cases e) (fun _ e=>e.elim)⟩
 refine wpIn_mono (h w κ κ sv0 _ w hsim) ?_
 rintro e a' w' ⟨κ',sv',S',hs,hq⟩
 cases e<;>first|exact hq.elim|skip
 all_goals
  obtain ⟨s,g,hg,hσ,ds,hd,hren⟩:=hq
  obtain ⟨Ds,d1,d2,d3,_⟩:=hs.defers
  show LeavesInM _ _ _ _ _ _ a'.defers _ _
  rw[d1]
  refine leaves_of rfl plainF_turn hd (fun a w' v hs h2=>?_) Ds a' w' hs d1 d2 d3
  rw[hren]at h2
  obtain ⟨M,h1,_⟩:=hs.wld.frame
  have hown:=hs.wld.own s
  rw[hσ]at hown
  have hk:∀ b o u,κ' b o=some u→(fun b o=>if b<w.heap.size then κ b o else κ' b o) b o=some u:=fun b o u hu=>by
   simp only
   split
   ·exact hs.wld.old b o u (by assumption) hu
   ·exact hu
  have hsl:(sv' s).oneCell'=true:=by
   obtain ⟨xs,e1,_⟩:=hown
   rcases e1.2 with ⟨hv,_⟩|⟨b,off,cap,cur,hv,_⟩<;>rw[hv]<;>rfl
  refine ⟨v,sv' s,fun b o=>if b<w.heap.size then κ b o else κ' b o,rfl,rep_ren (p:=s) (g:=g) (p':=0) (g':=1) (γ':=fun _=>1) (sv':=fun _=>sv' s) hk hg rfl rfl hR h2,fun b o u hu=>?_,fun b o u hb hu=>?_,fun b o u hu=>?_,hsl,?_,fun b hb o=>?_,h1.1.below⟩
  ·have:b<w.heap.size:=by have:=World.block_lt_of_cell? w _ (hκ b o u hu);simpa using this
   simp only;rw[if_pos this];exact hu
  ·simp only at hu;rw[if_pos hb]at hu;exact hu
  ·simp only at hu
   split at hu
   ·rename_i hb
    have h3:=hκ b o u hu
    rw[h1.1.below.cell (by simpa using hb)];exact h3
   ·exact hs.wld.imm b o u hu
  ·obtain ⟨xs,e1,e2,e3,e4⟩:=hown
   exact⟨xs,e1,e2,e3,fun i hi=>(e4 i hi).pure hk (hE i hi)⟩
  ·have hbk:blk (S'.σ s) (sv' s)=some b:=by rw[hσ];exact hb
   have h3:=hs.wld.frsh s b hbk
   have h4:w.heap.size≤b:=h3.resolve_right (fun h=>by rcases h with h|h<;>cases h)
   simp only;rw[if_neg (by omega)]
   exact hs.wld.sep s b o hbk
section
variable {X:Ctx}{κ κ':Nat→Nat→Option Value}{sv:Nat→Value}{S:St}{w w':World}
theorem SimW.adopt (h:SimW X κ sv S w) (hb:Below w.heap.size w w') (k1:∀ b o u,κ b o=some u→κ' b o=some u) (k2:∀ b o u,b<w.heap.size→κ' b o=some u→κ b o=some u) (k3:∀ b o u,κ' b o=some u→w'.cell? ⟨b,o,none⟩=some u)
  (p:Nat) (ow:Own) (sl:Value) (hnew:∀ b,blk ow sl=some b→w.heap.size≤b∧b<w'.heap.size∧∀ o,κ' b o=none) (ho:Owns (X.base p) κ' (upd S.γ p (S.γ p+1)) (upd sv p sl) w' p ow) (ρ':Nat→D) :
  SimW X κ' (upd sv p sl) ⟨ρ',upd S.γ p (S.γ p+1),upd S.σ p ow⟩ w':=by
 have hle:Le κ κ' S.γ (upd S.γ p (S.γ p+1)) sv (upd sv p sl):=by
  obtain ⟨a,b,c⟩:=le_renew κ S.γ sv p sl
  exact⟨k1,b,c⟩
 have hbk:∀ t b,blk (upd S.σ p ow t) (upd sv p sl t)=some b→(t=p∧blk ow sl=some b)∨(t≠p∧blk (S.σ t) (sv t)=some b):=by
  intro t b hb
  by_cases e:t=p
  ·subst e;rw[upd_same,upd_same]at hb;exact .inl ⟨rfl,hb⟩
  ·rw[upd_ne _ _ _ _ e,upd_ne _ _ _ _ e]at hb;exact .inr ⟨e,hb⟩
 obtain ⟨h1,h2,h3,h4,h5,⟨M,h6,h6'⟩,h7,h8,h9,h10,h11,h12,h13,h14,h15⟩:=h
 refine ⟨k3,fun t=>?_,fun t u b ht hu=>?_,fun t b o ht=>?_,fun t b ht=>?_,⟨_,X.cl M w w' h6 ⟨hb.os,hb.tape,hb.output,hb.size,fun k hk _=>hb.block k hk⟩,fun t b ht=>?_⟩,fun g l hgl=>?_,fun b o v hlt hk=>?_,fun b hb'=>?_,Nat.le_trans h10 hb.size,h11.trans hle,fun b o v hk hT=>?_,fun t b ht hT=>?_,fun b hT=>Nat.lt_of_lt_of_le (h14 b hT) hb.size,h15⟩
 ·by_cases e:t=p
  ·subst e;simp only[upd_same];exact ho
  ·simp only[upd_ne _ _ _ _ e]
   exact owns_mono hle (upd_ne _ _ _ _ e) (fun b hb'=>hb.block b (owns_lt (h2 t) hb')) (h2 t)
 ·simp only at ht hu
  rcases hbk t b ht with ⟨rfl,a1⟩|⟨e1,a1⟩<;>rcases hbk u b hu with ⟨rfl,a2⟩|⟨e2,a2⟩
  ·rfl
  ·have:=owns_lt (h2 u) a2;have:=(hnew b a1).1;omega
  ·have:=owns_lt (h2 t) a1;have:=(hnew b a2).1;omega
  ·exact h3 t u b a1 a2
 ·simp only at ht
  rcases hbk t b ht with ⟨rfl,a1⟩|⟨e1,a1⟩
  ·exact(hnew b a1).2.2 o
  ·cases hk:κ' b o with
   |none=>rfl
   |some v=>have h20:=k2 b o v (owns_lt (h2 t) a1) hk;rw[h4 t b o a1]at h20;cases h20
 ·simp only at ht
  rcases hbk t b ht with ⟨rfl,a1⟩|⟨e1,a1⟩
  ·exact .inl (Nat.le_trans h10 (hnew b a1).1)
  ·exact h5 t b a1
 ·simp only at ht
  rcases hbk t b ht with ⟨rfl,a1⟩|⟨e1,a1⟩
  ·exact .inr (hnew b a1).1
  ·exact .inl (h6' t b a1)
 ·obtain ⟨hc,u,hu,hk⟩:=h7 g l hgl
  exact⟨hc,u,hu.mono hle,fun j v hj=>k1 _ _ _ (hk j v hj)⟩
 ·exact h8 b o v hlt (k2 b o v (Nat.lt_of_lt_of_le hlt h10) hk)
 ·obtain ⟨e1,e2⟩:=h9 b hb'
  by_cases e:0=p
  ·subst e;simp only[upd_same];exact⟨by omega,fun e=>by omega⟩
  ·simp only[upd_ne _ _ _ _ e];exact⟨e1,e2⟩
 ·by_cases e:b<w.heap.size
  ·exact h12 b o v (k2 b o v e hk) hT
  ·have:=h14 b hT;omega
 ·simp only at ht
  rcases hbk t b ht with ⟨rfl,a1⟩|⟨e1,a1⟩
  ·have:=h14 b hT;have:=(hnew b a1).1;omega
  ·exact h13 t b a1 hT
end
section
variable {X:Ctx}{Q:Exit→St→Prop}{S:St}{ops:Array Oper}{o:Oper}{rest:List Oper}
end
section
variable {X:Ctx}{S:St}
theorem wk_arrN (s:Nat) {E z n:Nat}{f:Nat→List D} (f':Nat→List D) (hσ:S.σ s=.arr E z n f) (h:∀ i,i<n→NilL (f i) (f' i)):Wk X S ⟨S.ρ,S.γ,upd S.σ s (.arr E z n f')⟩:=fun κ sv a w hs=>by
 have hown:=hs.wld.own s
 rw[hσ]at hown
 obtain ⟨xs,e1,e2,e3,e4⟩:=hown
 have nl:∀ {l l':List D},NilL l l'→l'.length=l.length:=by
  intro l
  induction l with
  |nil=>intro l' h;cases l'<;>first|rfl|exact h.elim
  |cons d l ih=>intro l' h;cases l' with
   |nil=>exact h.elim
   |cons d' l'=>simp[ih h.2]
 refine ⟨κ,sv,⟨hs.size,hs.defers,hs.slot,?_⟩⟩
 refine hs.wld.rewrite s (.arr E z n f') (below_grown (Below.refl _ _) _) (by
  rw[hσ]
  cases sv s with
  |pointer a=>cases a<;>rfl
  |slice a=>cases a<;>rfl
  |map a=>cases a<;>rfl
  |_=>rfl) ⟨xs,e1,fun i hi=>by rw[nl (h i hi)];exact e2 i hi,fun i hi=>nilL_cell (h i hi) (e3 i hi),fun i hi=>nilL_rep (h i hi) (e4 i hi)⟩ _
theorem nilL_refl:∀ l:List D,NilL l l
 |[]=>trivial
 |_::l=>⟨.inl rfl,nilL_refl l⟩
end
section
variable {X:Ctx}{Q:Exit→St→Prop}{S S0:St}{ops:Array Oper}{o:Oper}{rest:List Oper}{E:List Ent}{V:List Vl}
end
end Go.Ab
namespace Go.Ab
open Go Go.RowKit
section
variable {X:Ctx}{o:Oper}{S:St}{x y:Operand}
theorem q_iar {T:TypeId}{r q:TRow}{l:List D}{j:Nat}{k:Int} (ho:o.op=.indexAddr T x y) (hx:S.ev X x=.rp l j) (hy:S.ev X y=.int .i64 k) (h0:0≤k)
  (hr:nth X.Z.tab T=some r) (hk:Nat.beq r.k 2=true) (h1:k<r.ln) (hq:nth X.Z.tab r.el=some q) (hq9:Nat.beq q.k 9=false):QOp X o S (.rp l (j+k.toNat * q.sz)):=fun κ sv a w hs=>by
 have hok:=X.Z.tabOk _ _ hr (by intro e;rw[e]at hk;cases hk)
 have hokq:=X.Z.tabOk _ _ hq (by intro e;rw[e]at hq9;cases hq9)
 have hyv:=rep_int (hy ▸ hs.ev y)
 have h1':=hs.ev x
 rw[hx]at h1'
 generalize he:a.eval x=v at h1'
 cases h1' with
 |rp _ _ b bo u hc hu hκ =>
  refine ⟨.pointer (some ⟨b,bo+(j+k.toNat * q.sz),none⟩),.rp l _ b bo u hc hu hκ,fun w' _=>?_⟩
  simp[execOp,ho,he,hyv,Instr.indexAt,asIntOf,run_underlying (array_row hok hk),Instr.sureAddr,h0,h1,run_size_row hokq,addr_add,Nat.add_assoc]
end
end Go.Ab
namespace Go.Ab
open Go Go.RowKit
section
variable {X:Ctx}{Q:Exit→St→Prop}{S T0:St}{ops:Array Oper}{o:Oper}{rest:List Oper}{S0:St}{E:List Ent}{V:List Vl}
end
end Go.Ab
namespace Go.Ab
open Go Go.RowKit
theorem blk_arr {E z n E' z' n':Nat}{f f':Nat→List D} (v:Value):blk (.arr E z n f) v=blk (.arr E' z' n' f') v:=by
 cases v with
 |pointer a=>cases a<;>rfl
 |slice a _ _=>cases a<;>rfl
 |map a=>cases a<;>rfl
 |_=>rfl
def bndv (v:Option Value) (i d:Nat):Prop:=(v=none∧i=d)∨v=some (.int .i64 i)
theorem run_sliceAt {P:Program}{w:World}{T e:TypeId}{q:TRow} (hu:P.underlying T=some (.slice e)) (hq:rowOk P e q=true) {a:Option Addr}{len cap:Nat}{lo hi:Option Value}{i j:Nat}
  (hlo:bndv lo i 0) (hhi:bndv hi j len) (hij:i≤j) (hjc:j≤cap) :
  (Instr.sliceAt T (.slice a len cap) lo hi none).run P w=.ok (.slice (if cap=i then a else a.map (·.add (i * q.sz))) (j - i) (cap - i)) w:=by
 rcases hlo with ⟨rfl,rfl⟩|rfl<;>rcases hhi with ⟨rfl,rfl⟩|rfl <;>
  simp[Instr.sliceAt,Instr.slice,Instr.sliceBounds,Instr.sliceBound,asIntOf,run_underlying hu,run_size_row hq,hij,hjc]
section
variable {X:Ctx}{o:Oper}{S:St}{x:Operand}
def bndd (X:Ctx) (S:St) (v:Option Operand) (i d:Nat):Prop:=(v=none∧i=d)∨∃ y,v=some y∧S.ev X y=.int .i64 i
theorem bndd.v {κ:Nat→Nat→Option Value}{sv:Nat→Value}{a:Act}{w:World} (hs:Sim X κ sv S a w) {v:Option Operand}{i d:Nat} (h:bndd X S v i d):bndv (v.map a.eval) i d:=by
 rcases h with ⟨rfl,rfl⟩|⟨y,rfl,hy⟩
 ·exact .inl ⟨rfl,rfl⟩
 ·exact .inr (by simp[ev_int hs hy])
theorem q_slF {T:TypeId}{r q:TRow}{z n i j:Nat}{f f':Nat→List D}{lo hi:Option Operand} (ho:o.op=.slice T x lo hi none) (hx:S.ev X x=.sl z n f)
  (hlo:bndd X S lo i 0) (hhi:bndd X S hi j n) (hij:i≤j) (hjn:j≤n)
  (hr:nth X.Z.tab T=some r) (hk:Nat.beq r.k 3=true) (hq:nth X.Z.tab r.el=some q) (hq9:Nat.beq q.k 9=false) (hz:q.sz=z) (hf:∀ k,k<j - i→f' k=f (i+k)) :
  QOp X o S (.sl z (j - i) f'):=fun κ sv a w hs=>by
 have hokr:=X.Z.tabOk _ _ hr (by intro e;rw[e]at hk;cases hk)
 have hokq:=X.Z.tabOk _ _ hq (by intro e;rw[e]at hq9;cases hq9)
 have hu:=slice_row hokr hk
 have hxv:=hs.ev x
 rw[hx]at hxv
 have key:∀ (b:Option Addr) (cap:Nat),a.eval x=.slice b n cap→n≤cap→∀ w',(execOp a.eval o).run X.Z.P w'=.ok (.value (.slice (if cap=i then b else b.map (·.add (i * q.sz))) (j - i) (cap - i))) w':=fun b cap he hnc w'=>by
  have:=run_sliceAt (P:=X.Z.P) (w:=w') (a:=b) (len:=n) (cap:=cap) hu hokq (hlo.v hs) (hhi.v hs) hij (by omega)
  simp only[execOp,ho,he,Option.map_none]
  simp[this]
 generalize he:a.eval x=v at hxv
 cases hxv with
 |sl _ _ _ b off cap u hnc h1 h2 h3 h4 =>
  refine ⟨_,?_,fun w' _=>key _ _ he hnc w'⟩
  by_cases hci:cap=i
  ·have:j - i=0:=by omega
   simp only[if_pos hci]
   rw[this]
   exact .slE _ _ _ _
  ·simp only[if_neg hci,Option.map_some,addr_add]
   subst hz
   refine .sl _ _ _ b (off+i * q.sz) (cap - i) (fun k=>u (i+k)) (by omega) (fun k hk=>by rw[hf k hk];exact h1 _ (by omega)) (fun k hk=>by rw[hf k hk];exact h2 _ (by omega)) (fun k hk=>by rw[hf k hk];exact h3 _ (by omega)) (fun k m v hk hm=>?_)
   have:=h4 (i+k) m v (by omega) hm
   rw[Nat.add_mul]at this
   rw[← this];congr 1;omega
 |sl0 =>
  have hj:j=0:=by omega
  have hi:i=0:=by omega
  subst hj hi
  exact⟨_,.sl0 _ _,fun w' _=>key _ _ he (Nat.le_refl _) w'⟩
 |slE _ _ ad cap =>
  have hj:j=0:=by omega
  have hi:i=0:=by omega
  subst hj hi
  refine ⟨_,?_,fun w' _=>key _ _ he (Nat.zero_le _) w'⟩
  split
  ·exact .slE _ _ _ _
  ·exact .slE _ _ _ _
theorem q_slFM {T:TypeId}{r q:TRow}{z n i j m:Nat}{f f':Nat→List D}{lo:Option Operand}{hi mx:Operand} (ho:o.op=.slice T x lo (some hi) (some mx)) (hx:S.ev X x=.sl z n f)
  (hlo:bndd X S lo i 0) (hhi:S.ev X hi=.int .i64 j) (hmx:S.ev X mx=.int .i64 m) (hij:i≤j) (hjm:j≤m) (hmn:m≤n)
  (hr:nth X.Z.tab T=some r) (hk:Nat.beq r.k 3=true) (hq:nth X.Z.tab r.el=some q) (hq9:Nat.beq q.k 9=false) (hz:q.sz=z) (hf:∀ k,k<j - i→f' k=f (i+k)) :
  QOp X o S (.sl z (j - i) f'):=fun κ sv a w hs=>by
 have hokr:=X.Z.tabOk _ _ hr (by intro e;rw[e]at hk;cases hk)
 have hokq:=X.Z.tabOk _ _ hq (by intro e;rw[e]at hq9;cases hq9)
 have hu:=slice_row hokr hk
 have hxv:=hs.ev x
 rw[hx]at hxv
 have e1:=ev_int hs hhi
 have e2:=ev_int hs hmx
 have key:∀ (b:Option Addr) (cap:Nat),a.eval x=.slice b n cap→n≤cap→∀ w',(execOp a.eval o).run X.Z.P w'=.ok (.value (.slice (if m=i then b else b.map (·.add (i * q.sz))) (j - i) (m - i))) w':=fun b cap he hnc w'=>by
  have hmc:m≤cap:=by omega
  have:(Instr.sliceAt T (.slice b n cap) (lo.map a.eval) (some (.int .i64 j)) (some (.int .i64 m))).run X.Z.P w'=.ok (.slice (if m=i then b else b.map (·.add (i * q.sz))) (j - i) (m - i)) w':=by
   rcases hlo.v hs with ⟨h1,rfl⟩|h1<;>rw[h1] <;>
    simp[Instr.sliceAt,Instr.slice,Instr.sliceBounds,Instr.sliceBound,asIntOf,run_underlying hu,run_size_row hokq,hij,hjm,hmc]
  simp only[execOp,ho,he,Option.map_some,e1,e2]
  simp[this]
 generalize he:a.eval x=v at hxv
 cases hxv with
 |sl _ _ _ b off cap u hnc h1 h2 h3 h4 =>
  refine ⟨_,?_,fun w' _=>key _ _ he hnc w'⟩
  by_cases hci:m=i
  ·have:j - i=0:=by omega
   simp only[if_pos hci]
   rw[this]
   exact .slE _ _ _ _
  ·simp only[if_neg hci,Option.map_some,addr_add]
   subst hz
   refine .sl _ _ _ b (off+i * q.sz) (m - i) (fun k=>u (i+k)) (by omega) (fun k hk=>by rw[hf k hk];exact h1 _ (by omega)) (fun k hk=>by rw[hf k hk];exact h2 _ (by omega)) (fun k hk=>by rw[hf k hk];exact h3 _ (by omega)) (fun k m v hk hm=>?_)
   have:=h4 (i+k) m v (by omega) hm
   rw[Nat.add_mul]at this
   rw[← this];congr 1;omega
 |sl0 =>
  have hj:j=0:=by omega
  have hi:i=0:=by omega
  have hm:m=0:=by omega
  subst hj hi hm
  exact⟨_,.sl0 _ _,fun w' _=>by have:=key _ _ he (Nat.le_refl _) w';simpa using this⟩
 |slE _ _ ad cap =>
  have hj:j=0:=by omega
  have hi:i=0:=by omega
  have hm:m=0:=by omega
  subst hj hi hm
  exact⟨_,.slE _ _ _ _,fun w' _=>by have:=key _ _ he (Nat.zero_le _) w';simpa using this⟩
theorem n_slO {T E:TypeId}{r q:TRow}{s g z n i j t n':Nat}{f f':Nat→List D}{lo hi:Option Operand} (ho:o.op=.slice T x lo hi none) (hd:o.dst=some t) (hx:S.ev X x=.os s g) (hg:S.γ s=g) (hσ:S.σ s=.arr E z n f)
  (hlo:bndd X S lo i 0) (hhi:bndd X S hi j n) (hij:i≤j) (hjn:j≤n)
  (hr:nth X.Z.tab T=some r) (hk:Nat.beq r.k 3=true) (hE:r.el=E) (hq:nth X.Z.tab E=some q) (hq9:Nat.beq q.k 9=false) (hz:q.sz=z) (hn':n'=j - i) (hf:∀ k,k<j - i→f' k=f (i+k)) :
  NOp X o S (S.owned t s (.arr E z n' f')):=fun κ sv a w hs=>by
 subst hn' hz hE
 have hokr:=X.Z.tabOk _ _ hr (by intro e;rw[e]at hk;cases hk)
 have hokq:=X.Z.tabOk _ _ hq (by intro e;rw[e]at hq9;cases hq9)
 have hu:=slice_row hokr hk
 have hown0:=hs.wld.own s
 rw[hσ]at hown0
 obtain ⟨xs,hown,hfl,hfc,hfr⟩:=hown0
 have hxv:=hs.ev x
 rw[hx]at hxv
 have hxe:a.eval x=sv s:=by
  generalize a.eval x=v at hxv
  cases hxv with
  |os _ _ _ _ hh _=>exact hh hg.symm
 have key:∀ (b:Option Addr) (cap:Nat),sv s=.slice b n cap→n≤cap→(execOp a.eval o).run X.Z.P w=.ok (.value (.slice (if cap=i then b else b.map (·.add (i * q.sz))) (j - i) (cap - i))) w:=fun b cap he hnc=>by
  have:=run_sliceAt (P:=X.Z.P) (w:=w) (a:=b) (len:=n) (cap:=cap) hu hokq (hlo.v hs) (hhi.v hs) hij (by omega)
  simp only[execOp,ho,hxe,he,Option.map_none]
  simp[this]
 have hdj:∀ (k:Nat),k<j - i→((xs.drop (i * q.sz)).take ((j - i) * q.sz) |>.drop (k * q.sz)).take q.sz=(xs.drop ((i+k) * q.sz)).take q.sz:=fun k hk=>by
  have h1:k * q.sz+q.sz≤(j - i) * q.sz:=by have:=Nat.mul_le_mul_right q.sz (show k+1≤j - i by omega);rw[Nat.add_mul]at this;omega
  rw[List.drop_take,List.take_take,Nat.min_eq_left (by omega),List.drop_drop,Nat.add_mul]
 have hfin:∀ pv:Value,pv.oneCell'=true→(∀ b,blk (S.σ s) pv=some b→blk (S.σ s) (sv s)=some b)→ownsAt w (X.base s) r.el q.sz pv (j - i) ((xs.drop (i * q.sz)).take ((j - i) * q.sz)) →
   (execOp a.eval o).run X.Z.P w=.ok (.value pv) w →
   ∃ v w' κ' sv',((execOp a.eval o).run X.Z.P w=.ok (.value v) w'∨((execOp a.eval o).run X.Z.P w=.ok .skip w'∧v=Go.undef))∧Sim X κ' sv' (S.owned t s (.arr r.el q.sz (j - i) f')) (a.put o.dst v) w':=fun pv h1c hb hO hrun=>by
  rw[hd]
  refine ⟨pv,w,κ,upd sv s pv,.inl hrun,sim_owned hs t s (pv:=pv) h1c (below_grown (Below.refl _ _) _) (fun b hb'=>.inr (hb b (by rw[hσ];rw[blk_arr]at hb';exact hb'))) ?_⟩
  refine ⟨_,by rw[upd_same];exact hO,fun k hk=>by rw[hf k hk];exact hfl _ (by omega),fun k hk=>by rw[hf k hk];exact hfc _ (by omega),fun k hk=>?_⟩
  rw[hf k hk,hdj k hk]
  exact(hfr (i+k) (by omega)).mono (le_renew κ S.γ sv s pv)
 rcases hown.2 with ⟨hv,hn⟩|⟨b,off,cap,cur,hv,hbase,hh,hnc,hcm,hcs,htake⟩
 ·have hj:j=0:=by omega
  have hi:i=0:=by omega
  subst hj hi
  refine hfin _ rfl (fun b hb=>?_) ⟨by simp,.inl ⟨rfl,rfl⟩⟩ (by have:=key none 0 (by rw[hv,hn]) (by omega);simpa using this)
  rw[hσ]at hb;cases hb
 ·refine hfin _ ?_ ?_ ?_ (key _ _ hv hnc)
  ·simp only[Option.map_some];split<;>rfl
  ·intro b' hb'
   rw[hσ]at hb' ⊢
   rw[hv]
   simp only[Option.map_some,addr_add]at hb'
   split at hb'<;>exact hb'
  ·have hxl:=hown.1
   have hin:i * q.sz≤n * q.sz:=Nat.mul_le_mul_right _ (by omega)
   have hjn':i * q.sz+(j - i) * q.sz≤n * q.sz:=by rw[← Nat.add_mul];exact Nat.mul_le_mul_right _ (by omega)
   refine ⟨by simp;omega,.inr ?_⟩
   by_cases hci:cap=i
   ·have h0:j - i=0:=by omega
    rw[if_pos hci,h0]
    exact⟨b,off,cap - i,cur,rfl,hbase,hh,by omega,by omega,by rw[show cap - i=0 by omega];omega,by simp⟩
   ·rw[if_neg hci]
    simp only[Option.map_some,addr_add]
    refine ⟨b,off+i * q.sz,cap - i,cur,rfl,hbase,hh,by omega,by omega,?_,?_⟩
    ·have:i * q.sz+(cap - i) * q.sz=cap * q.sz:=by rw[← Nat.add_mul];congr 1;omega
     omega
    ·rw[← htake,List.drop_take,List.take_take,List.drop_drop,Nat.min_eq_left (by omega)]
end
end Go.Ab
namespace Go.Ab
open Go Go.RowKit
section
variable {X:Ctx}{o:Oper}{S:St}{x y:Operand}{T T2:TypeId}
theorem run_loadVar_one {P:Program}{t:TypeId}{d:TypeDesc}{w:World} (hd:P.underlying t=some d) (ha:aggOf P t=false) {a:Addr}{v:Value} (h:w.cell? a=some v):(loadVar t a).run P w=.ok v w:=by
 simp[loadVar,run_isAgg hd,ha,h]
theorem q_ldrf {l:List D}{j:Nat}{d:D}{td:TypeDesc} (ho:o.op=.load T x) (hx:S.ev X x=.rp l j) (hu:X.Z.P.underlying T=some td) (ha:aggOf X.Z.P T=false) (hd:nth l j=some d):QOp X o S d:=fun κ sv a w hs=>by
 have h1:=hs.ev x
 rw[hx]at h1
 generalize he:a.eval x=v at h1
 cases h1 with
 |rp _ _ b off u _ hu' hκ =>
  rw[nth_eq]at hd
  obtain ⟨vj,hv,hrep⟩:=hu'.get hd
  refine ⟨vj,hrep,fun w' hb=>?_⟩
  have hc:=hs.wld.imm _ _ _ (hκ j vj hv)
  have hc':w'.cell? ⟨b,off+j,none⟩=some vj:=(hb.cell (World.block_lt_of_cell? w _ hc)).trans hc
  simp[execOp,ho,he,Instr.loadAt,Instr.sureAddr,run_loadVar_one hu ha hc']
theorem q_ldbf {s g j:Nat}{l:List D}{d:D}{td:TypeDesc} (ho:o.op=.load T x) (hx:S.ev X x=.bx s g j) (hu:X.Z.P.underlying T=some td) (ha:aggOf X.Z.P T=false)
  (hg:S.γ s=g) (hσ:S.σ s=.box l) (hd:nth l j=some d):QOp X o S d:=fun κ sv a w hs=>by
 obtain ⟨b,Tb,cs,he,_,hh,hrep,_⟩:=box_cells hs hx hg hσ
 rw[nth_eq]at hd
 obtain ⟨vj,hv,hrj⟩:=hrep.get hd
 refine ⟨vj,hrj,fun w' hb=>?_⟩
 have hh':w'.heap[b]?=some (.cells (List.toArray cs) Tb (0,0)):=by rw[hb.block b (Array.getElem?_eq_some_iff.1 hh).1];exact hh
 have hc':w'.cell? ⟨b,j,none⟩=some vj:=by rw[cell_of_row w' b j _ _ _ hh'];simpa using hv
 simp[execOp,ho,he,Instr.loadAt,Instr.sureAddr,run_loadVar_one hu ha hc']
theorem q_lenS {s:ByteArray}{ts:Array TypeId} (ho:o.op=.call { callee:=.builtin .len,args:=#[x],argTypes:=ts }) (hT:ts[0]?=some T) (hx:S.ev X x=.str s)
  (hu:X.Z.P.underlying T=some .string):QOp X o S (.int .i64 s.size):=fun κ sv a w hs =>
 ⟨.int .i64 s.size,.int _ _,fun w' _=>by simp[execOp,ho,resolve,invoke,builtin,Builtin.len_,hT,ev_str hs hx,run_underlying hu,goInt]⟩
theorem q_idxS {s:ByteArray}{i:Int}{b:UInt8} (ho:o.op=.index T x y) (hx:S.ev X x=.str s) (hy:S.ev X y=.int .i64 i) (hu:X.Z.P.underlying T=some .string) (h0:0≤i) (hb:s[i.toNat]?=some b) :
  QOp X o S (.int .u8 b.toNat):=fun κ sv a w hs =>
 ⟨.int .u8 b.toNat,.int _ _,fun w' _=>by simp[execOp,ho,ev_str hs hx,ev_int hs hy,Instr.index,asIntOf,run_underlying hu,h0,hb]⟩
theorem q_eqS {s t:ByteArray} (ho:o.op=.binOp .eql T x y T2) (hx:S.ev X x=.str s) (hy:S.ev X y=.str t):QOp X o S (.bool (s.toList == t.toList)):=fun κ sv a w hs =>
 ⟨.bool (s.toList == t.toList),.bool _,fun w' _=>by simp[execOp,ho,ev_str hs hx,ev_str hs hy,eqGuard,binOp,Op.stringOp]⟩
theorem q_neS {s t:ByteArray} (ho:o.op=.binOp .neq T x y T2) (hx:S.ev X x=.str s) (hy:S.ev X y=.str t):QOp X o S (.bool (!(s.toList == t.toList))):=fun κ sv a w hs =>
 ⟨.bool (!(s.toList == t.toList)),.bool _,fun w' _=>by simp[execOp,ho,ev_str hs hx,ev_str hs hy,eqGuard,binOp,Op.stringOp]⟩
end
section
variable {X:Ctx}{o:Oper}{S:St}{x y:Operand}{T T2:TypeId}
theorem run_copy_zero {P:Program}{w:World}{ty E:TypeId}{q:TRow} (hu:P.underlying T=some (.slice E)) (hq:rowOk P E q=true) {d a:Option Addr}{n m c c':Nat} (h0:Nat.min m n=0) :
  (Builtin.copy_ #[T,T2] ty #[.slice d n c,.slice a m c']).run P w=.ok (goInt 0) w:=by
 have hl:∀ (x:Addr),(loadCells x 0).run P w=.ok #[] w:=fun x=>by simpa using run_loadCells_list (P:=P) w x [] (by simp)
 cases d<;>cases a<;>simp[Builtin.copy_,run_underlying hu,Builtin.lenOf,Builtin.firstCells,run_size_row hq,h0,storeCells,hl]
theorem run_copy_some {P:Program}{w:World}{ty E:TypeId}{q:TRow} (hu:P.underlying T=some (.slice E)) (hq:rowOk P E q=true) {g off n m c c' k:Nat}{ad:Addr}{cur:Array Value}{news:List Value}{e:TypeId} (hk:Nat.min m n=k)
  (hg:w.heap[g]?=some (.cells cur e (0,0))) (hl:news.length=k * q.sz) (hn:∀ j v,news[j]?=some v→w.cell? (ad.add j)=some v) (h1:∀ v∈news,v.oneCell'=true) (hfit:off+news.length≤cur.size) :
  (Builtin.copy_ #[T,T2] ty #[.slice (some ⟨g,off,none⟩) n c,.slice (some ad) m c']).run P w=.ok (goInt k) (w.setRow g (cur.toList.take off++news++cur.toList.drop (off+news.length)).toArray):=by
 have hld:=run_loadCells_list (P:=P) w ad news hn
 rw[hl]at hld
 have hst:=run_storeCells_at P g off e news 0 cur w hg (by simpa using hfit) h1
 simp only[Nat.add_zero]at hst
 simp[Builtin.copy_,run_underlying hu,Builtin.lenOf,Builtin.firstCells,run_size_row hq,hk,hld,hst]
theorem n_copy {r q:TRow}{s g z n m t k:Nat}{E:TypeId}{f h f':Nat→List D}{ts:Array TypeId} (ho:o.op=.call { callee:=.builtin .copy,args:=#[x,y],argTypes:=ts }) (hts:ts=#[T,T2]) (hd:o.dst=some t)
  (hx:S.ev X x=.os s g) (hg:S.γ s=g) (hσ:S.σ s=.arr E z n f) (hy:S.ev X y=.sl z m h)
  (hr:nth X.Z.tab T=some r) (hk:Nat.beq r.k 3=true) (hE:r.el=E) (hq:nth X.Z.tab E=some q) (hq9:Nat.beq q.k 9=false) (hz:q.sz=z) (hz0:Nat.beq z 0=false)
  (hkk:Nat.min m n=k) (h1:∀ i,i<k→f' i=h i) (h2:∀ i,k≤i→i<n→f' i=f i) :
  NOp X o S ⟨upd S.ρ t (.int .i64 k),S.γ,upd S.σ s (.arr E z n f')⟩:=fun κ sv a w hs=>by
 subst hts hE hz
 have hokr:=X.Z.tabOk _ _ hr (by intro e;rw[e]at hk;cases hk)
 have hokq:=X.Z.tabOk _ _ hq (by intro e;rw[e]at hq9;cases hq9)
 have hu:=slice_row hokr hk
 have hown0:=hs.wld.own s
 rw[hσ]at hown0
 obtain ⟨xs,hown,hfl,hfc,hfr⟩:=hown0
 have hxv:=hs.ev x
 rw[hx]at hxv
 have hxe:a.eval x=sv s:=by
  generalize a.eval x=v at hxv
  cases hxv with
  |os _ _ _ _ hh _=>exact hh hg.symm
 have hyv:=hs.ev y
 rw[hy]at hyv
 have hz1:0<q.sz:=by
  cases hzz:q.sz with
  |zero=>rw[hzz]at hz0;cases hz0
  |succ=>omega
 have hkm:k≤m:=hkk ▸ Nat.min_le_left _ _
 have hkn:k≤n:=hkk ▸ Nat.min_le_right _ _
 have hfin:∀ (w':World) (xs':List Value),(Builtin.copy_ #[T,T2] o.type #[a.eval x,a.eval y]).run X.Z.P w=.ok (goInt k) w'→w.grownBy w' (blk (S.σ s) (sv s))→ownsAt w' (X.base s) r.el q.sz (sv s) n xs' →
   (∀ i,i<n→(f' i).length=q.sz)→(∀ i,i<n→allCell (f' i)=true)→(∀ i,i<n→RepL κ S.γ sv (f' i) ((xs'.drop (i * q.sz)).take q.sz)) →
   ∃ v w' κ' sv',((execOp a.eval o).run X.Z.P w=.ok (.value v) w'∨((execOp a.eval o).run X.Z.P w=.ok .skip w'∧v=Go.undef))∧Sim X κ' sv' ⟨upd S.ρ t (.int .i64 k),S.γ,upd S.σ s (.arr r.el q.sz n f')⟩ (a.put o.dst v) w':=fun w' xs' hrun hgr ho' e2 e3 e4=>by
  have hW:=hs.wld.rewrite s (.arr r.el q.sz n f') hgr (by rw[hσ];exact blk_arr _) ⟨xs',ho',e2,e3,e4⟩ S.ρ
  have hS:Sim X κ sv ⟨S.ρ,S.γ,upd S.σ s (.arr r.el q.sz n f')⟩ a w':=⟨hs.size,dfr_own hs s hgr,hs.slot,hW⟩
  rw[hd]
  refine ⟨.int .i64 k,w',κ,sv,.inl ?_,hS.put (some t) (.int _ _)⟩
  simp[execOp,ho,resolve,invoke,builtin,hrun,goInt]
 have hzero:∀ (b:Option Addr) (cap:Nat),a.eval y=.slice b m cap→k=0→∃ v w' κ' sv',((execOp a.eval o).run X.Z.P w=.ok (.value v) w'∨((execOp a.eval o).run X.Z.P w=.ok .skip w'∧v=Go.undef))∧Sim X κ' sv' ⟨upd S.ρ t (.int .i64 k),S.γ,upd S.σ s (.arr r.el q.sz n f')⟩ (a.put o.dst v) w':=fun b cap hye h0=>by
  refine hfin w xs ?_ (below_grown (Below.refl _ _) _) hown (fun i hi=>by rw[h2 i (by omega) hi];exact hfl i hi) (fun i hi=>by rw[h2 i (by omega) hi];exact hfc i hi) (fun i hi=>by rw[h2 i (by omega) hi];exact hfr i hi)
  rw[hye,hxe,h0]
  rcases hown.2 with ⟨hv,_⟩|⟨g',off,cap',cur,hv,_⟩
  ·rw[hv];have:=run_copy_zero (T2:=T2) (w:=w) (ty:=o.type) (d:=none) (a:=b) (n:=0) (m:=m) (c:=0) (c':=cap) hu hokq (by simp)
   exact this
  ·rw[hv];exact run_copy_zero hu hokq (by rw[hkk,h0])
 generalize hye:a.eval y=v at hyv
 cases hyv with
 |sl0=>exact hzero _ _ hye (by omega)
 |slE=>exact hzero _ _ hye (by omega)
 |sl _ _ _ b off cap u hmc hlz hac hul hκ =>
  by_cases hk0:k=0
  ·exact hzero _ _ hye hk0
  have hulen:∀ i,i<k→(u i).length=q.sz:=fun i hi=>by rw[(hul i (by omega)).length,hlz i (by omega)]
  have hnl:(((List.range k).map u).flatten).length=k * q.sz:=by
   rw[flat_len _ (z:=q.sz) (fun c hc=>by
    obtain ⟨j,hj,rfl⟩:=List.mem_map.1 hc
    exact hulen j (by simpa using hj))]
   simp
  have hcellat:∀ j v,(((List.range k).map u).flatten)[j]?=some v→∃ i l,i<k∧l<q.sz∧j=i * q.sz+l∧(u i)[l]?=some v:=by
   intro j v hj
   have hjl:=(List.getElem?_eq_some_iff.1 hj).1
   rw[hnl]at hjl
   have hl:j % q.sz<q.sz:=Nat.mod_lt _ hz1
   have hi:j / q.sz<k:=(Nat.div_lt_iff_lt_mul hz1).2 hjl
   have e:j=j / q.sz * q.sz+j % q.sz:=by rw[Nat.mul_comm];exact(Nat.div_add_mod j q.sz).symm
   refine ⟨j / q.sz,j % q.sz,hi,hl,e,?_⟩
   rw[e,flat_at _ (z:=q.sz) (fun c hc=>by
    obtain ⟨i,hi,rfl⟩:=List.mem_map.1 hc
    exact hulen i (by simpa using hi)) _ _ hl]at hj
   simpa[hi] using hj
  have hxl:=hown.1
  have hknz:k * q.sz≤n * q.sz:=Nat.mul_le_mul_right _ hkn
  rcases hown.2 with ⟨hv,hn0⟩|⟨g',off',cap',cur,hv,hbase,hheap,hnc,hcm,hsz,htake⟩
  ·omega
  have hcap:n * q.sz≤cap' * q.sz:=Nat.mul_le_mul_right _ hnc
  have hrun:=run_copy_some (T2:=T2) (w:=w) (ty:=o.type) (c:=cap') (c':=cap) (ad:=⟨b,off,none⟩) (off:=off') hu hokq hkk hheap hnl
   (fun j v hj=>by
    obtain ⟨i,l,hi,hl,rfl,hv⟩:=hcellat j v hj
    rw[addr_add,← Nat.add_assoc]
    exact hs.wld.imm _ _ _ (hκ i l v (by omega) hv))
   (fun v hv=>by
    obtain ⟨j,hj⟩:=List.getElem?_of_mem hv
    obtain ⟨i,l,hi,hl,rfl,hv⟩:=hcellat j v hj
    exact RepL.oneCells (hul i (by omega)) (hac i (by omega)) v (List.mem_of_getElem? hv))
   (by rw[hnl];omega)
  obtain ⟨news,hnews⟩:∃ news,((List.range k).map u).flatten=news:=⟨_,rfl⟩
  have hfc1:=flat_chunk u k hulen
  rw[hnews]at hrun hnl hfc1
  refine hfin _ (news++xs.drop (k * q.sz)) (by rw[hxe,hye,hv];exact hrun) (by rw[hσ,hv];exact grown_setRow _ _ _) ?_ (fun i hi=>?_) (fun i hi=>?_) (fun i hi=>?_)
  ·refine ⟨by simp[hnl];omega,.inr ⟨g',off',cap',_,hv,hbase,setRow_heap w g' cur _ _ (0,0) hheap,hnc,hcm,?_,?_⟩⟩
   ·simp[hnl];omega
   ·have:=splice_off (cur:=cur.toList) (ds:=news) (off:=off') (p:=0) (N:=n * q.sz) (by rw[hnl];omega) (by simp;omega)
    simp only[Nat.add_zero,Nat.zero_add,List.take_zero,List.nil_append]at this
    rw[this,htake,hnl]
  ·by_cases hik:i<k
   ·rw[h1 i hik];exact hlz i (by omega)
   ·rw[h2 i (by omega) hi];exact hfl i hi
  ·by_cases hik:i<k
   ·rw[h1 i hik];exact hac i (by omega)
   ·rw[h2 i (by omega) hi];exact hfc i hi
  ·by_cases hik:i<k
   ·rw[h1 i hik,append_chunkL hnl hik,hfc1 i hik];exact hul i (by omega)
   ·rw[h2 i (by omega) hi]
    obtain ⟨j,rfl⟩:∃ j,i=k+j:=⟨i - k,by omega⟩
    rw[append_chunkR hnl,List.drop_drop,← Nat.add_mul]
    exact hfr _ hi
end
end Go.Ab
namespace Go.Ab
open Go Go.RowKit
set_option linter.all false
structure ContractRO (Z:Seat) (f:FuncId) (l l' A:List D) (R:D) (E z n:Nat) (el:Nat→List D):Prop where
 pureA:PureL A
 purel:PureL l
 purel':PureL l'
 cell':allCell l'=true
 poR:PO R
 pureE:∀ i,i<n→PureL (el i)
 body:HasBody Z.P f
 calls:∀ (w:World) (κ:Nat→Nat→Option Value) (args:List Value) (b:Nat) (T:TypeId) (cs:List Value),Fits κ w→(∀ o,κ b o=none)→w.heap[b]?=some (.cells (List.toArray cs) T (0,0))→RepL κ γ0 sv0 l cs→GlobOk Z κ w→RepL κ γ0 sv0 A args →
  Calls Z.P f (Value.pointer (some ⟨b,0,none⟩)::args).toArray w fun e w'=>∃ v sl κ' cs' T',e=.returned v∧w'.heap[b]?=some (.cells (List.toArray cs') T' (0,0))∧RepL κ' γ0 sv0 l' cs' ∧
   Rep κ' (fun _=>1) (fun _=>sl) (renO 0 1 R) v∧(∀ b o u,κ b o=some u→κ' b o=some u)∧(∀ b o u,b<w.heap.size→κ' b o=some u→κ b o=some u) ∧
   (∀ b o u,κ' b o=some u→w'.cell? ⟨b,o,none⟩=some u)∧Owns w.heap.size κ' (fun _=>1) (fun _=>sl) w' 0 (.arr E z n el)∧(∀ b,blk (.arr E z n el) sl=some b→∀ o,κ' b o=none)∧Frame (some b) w w'
section
variable {X:Ctx}{Q:Exit→St→Prop}{S:St}{ops:Array Oper}{o:Oper}{rest:List Oper}
theorem WL_callRO (p:Nat) {f:FuncId}{x0:Operand}{xs:List Operand}{ts:Array TypeId}{l l' A:List D}{R:D}{E z n:Nat}{el:Nat→List D}{s g:Nat} (hps:p≠s) (hg:o.guard=none) (ho:o.op=.call { callee:=.value (.func f),args:=(x0::xs).toArray,argTypes:=ts }) (hx:S.ev X x0=.bx s g 0) (hγ:S.γ s=g) (hσ:S.σ s=.box l)
  (hc:ContractRO X.Z f l l' A R E z n el) (hA:xs.map (S.ev X)=A) {t:Nat} (hd:o.dst=some t) {R':D} (hR:renO p (S.γ p+1) R=R')
  (hk:WL X ops rest Q ⟨upd S.ρ t R',upd S.γ p (S.γ p+1),upd (upd S.σ s (.box l')) p (.arr E z n el)⟩):WL X ops (o::rest) Q S:=fun κ sv a w hs=>by
 subst hR
 obtain ⟨b,T,cs,he,hsv,hh,hrep,hac⟩:=box_cells hs hx hγ hσ
 have hblk:blk (S.σ s) (sv s)=some b:=by rw[hσ,hsv];rfl
 have hr:=evs_rep hs xs
 rw[hA]at hr
 have hrun:=run_call (P:=X.Z.P) (a:=a) (w:=w) hc.body ho
 simp only[List.map_cons,he]at hrun
 have hcall:=hc.calls w κ (xs.map a.eval) b T cs (Sim.fits hs.wld) (fun o=>hs.wld.sep s b o hblk) hh (hrep.pure (fun _ _ _ h=>h) hc.purel) (Sim.globOk hs.wld) (hr.pure (fun _ _ _ h=>h) hc.pureA)
 refine wpListIn_plain hg fun K hK=>op_call hrun hcall ?_
 rintro e w' ⟨v,sl,κ',cs',T',rfl,hh',hl',hv,k1,k2,k3,hown,hsep,hfr⟩
 have hgr:w.grownBy w' (some b):=⟨hfr.os,hfr.tape,hfr.output,hfr.size,fun k hk hne=>hfr.block k hk hne⟩
 have hle:Le κ κ' S.γ (upd S.γ p (S.γ p+1)) sv (upd sv p sl):=by
  obtain ⟨a,b,c⟩:=le_renew κ S.γ sv p sl
  exact⟨k1,b,c⟩
 have hnew:∀ b',blk (.arr E z n el) sl=some b'→w.heap.size≤b'∧b'<w'.heap.size∧∀ o,κ' b' o=none:=fun b' hbk=>by
  obtain ⟨xs,e1,_⟩:=hown
  rcases e1.2 with ⟨hv,_⟩|⟨b'',off,cap,cur,hv,hbase,hh,_⟩
  ·simp only at hv;rw[hv]at hbk;cases hbk
  ·simp only at hv
   rw[hv]at hbk;simp only[blk,Option.some.injEq]at hbk;subst hbk
   exact⟨hbase,(Array.getElem?_eq_some_iff.1 hh).1,hsep b'' (by rw[hv];rfl)⟩
 have hbt:∀ t,t≠s→∀ b',blk (S.σ t) (sv t)=some b'→w'.heap[b']?=w.heap[b']?:=fun t ht b' hb' =>
  hgr.block b' (owns_lt (hs.wld.own t) hb') (fun e=>ht (hs.wld.inj t s b' hb' (by rw[hblk];exact e.symm)))
 have hbk:∀ t b',blk (upd (upd S.σ s (.box l')) p (.arr E z n el) t) (upd sv p sl t)=some b'→(t=p∧blk (.arr E z n el) sl=some b')∨(t≠p∧blk (S.σ t) (sv t)=some b'):=by
  intro t b' hb'
  by_cases e:t=p
  ·subst e;rw[upd_same,upd_same]at hb';exact .inl ⟨rfl,hb'⟩
  ·rw[upd_ne _ _ _ _ e,upd_ne _ _ _ _ e]at hb'
   refine .inr ⟨e,?_⟩
   by_cases e2:t=s
   ·subst e2;rw[upd_same,hsv]at hb';rw[hblk];exact hb'
   ·rw[upd_ne _ _ _ _ e2]at hb';exact hb'
 have hκb:∀ o,κ' b o=none:=fun o=>by
  cases hk:κ' b o with
  |none=>rfl
  |some u =>
   have h2:=k2 b o u (owns_lt (hs.wld.own s) hblk) hk
   rw[hs.wld.sep s b o hblk]at h2;cases h2
 have hW:SimW X κ' (upd sv p sl) ⟨S.ρ,upd S.γ p (S.γ p+1),upd (upd S.σ s (.box l')) p (.arr E z n el)⟩ w':=by
  have h0:=hs.wld
  obtain ⟨h1,h2,h3,h4,h5,_,h7,h8,h9,h10,h11,h12,h13,h14,h15⟩:=hs.wld
  refine ⟨k3,fun t=>?_,fun t u b' ht hu=>?_,fun t b' o ht=>?_,fun t b' ht=>?_,frame_step h0 hgr (fun b' e=>⟨s,by rw[hblk];exact e⟩) (fun t b' ht=>?_),fun g l hgl=>?_,fun b' o v hlt hk=>k2 b' o v (Nat.lt_of_lt_of_le hlt h10) hk |> h8 b' o v hlt,fun b' hb'=>?_,Nat.le_trans h10 hgr.size,h11.trans hle,fun b' o v hk hT=>?_,fun t b' ht hT=>?_,fun b' h=>Nat.lt_of_lt_of_le (h14 b' h) hgr.size,h15⟩
  ·by_cases e:t=p
   ·subst e
    simp only[upd_same]
    obtain ⟨xs,e1,e2,e3,e4⟩:=hown
    exact⟨xs,by rw[upd_same];exact owns_base e1 (Nat.le_trans (X.base_le _) h10),e2,e3,fun i hi=>(e4 i hi).pure (fun _ _ _ h=>h) (hc.pureE i hi)⟩
   ·simp only[upd_ne _ _ _ _ e]
    by_cases e2:t=s
    ·subst e2;simp only[upd_same]
     exact⟨b,T',cs',by rw[upd_ne _ _ _ _ e];exact hsv,hh',hl'.pure (fun _ _ _ h=>h) hc.purel',.pure hc.cell' hc.purel'⟩
    ·simp only[upd_ne _ _ _ _ e2]
     exact owns_mono hle (upd_ne _ _ _ _ e) (hbt t e2) (h2 t)
  ·simp only at ht hu
   rcases hbk t b' ht with ⟨rfl,a1⟩|⟨e1,a1⟩<;>rcases hbk u b' hu with ⟨rfl,a2⟩|⟨e2,a2⟩
   ·rfl
   ·have:=owns_lt (h2 u) a2;have:=(hnew b' a1).1;omega
   ·have:=owns_lt (h2 t) a1;have:=(hnew b' a2).1;omega
   ·exact h3 t u b' a1 a2
  ·simp only at ht
   rcases hbk t b' ht with ⟨rfl,a1⟩|⟨e1,a1⟩
   ·exact(hnew b' a1).2.2 o
   ·cases hk:κ' b' o with
    |none=>rfl
    |some v=>have h20:=k2 b' o v (owns_lt (h2 t) a1) hk;rw[h4 t b' o a1]at h20;cases h20
  ·simp only at ht
   rcases hbk t b' ht with ⟨rfl,a1⟩|⟨e1,a1⟩
   ·exact .inl (Nat.le_trans h10 (hnew b' a1).1)
   ·exact h5 t b' a1
  ·rcases hbk t b' ht with ⟨rfl,a1⟩|⟨e1,a1⟩
   ·exact .inl (hnew b' a1).1
   ·exact .inr ⟨t,a1⟩
  ·obtain ⟨hc2,u,hu,hk⟩:=h7 g l hgl
   exact⟨hc2,u,hu.mono hle,fun j v hj=>k1 _ _ _ (hk j v hj)⟩
  ·obtain ⟨e1,e2⟩:=h9 b' hb'
   by_cases e:0=p
   ·subst e;simp only[upd_same];exact⟨by omega,fun e=>by omega⟩
   ·simp only[upd_ne _ _ _ _ e];exact⟨e1,e2⟩
  ·by_cases e:b'<w.heap.size
   ·exact h12 b' o v (k2 b' o v e hk) hT
   ·have:=h14 b' hT;omega
  ·simp only at ht
   rcases hbk t b' ht with ⟨rfl,a1⟩|⟨e1,a1⟩
   ·have:=h14 b' hT;have:=(hnew b' a1).1;omega
   ·exact h13 t b' a1 hT
 have hs':Sim X κ' (upd sv p sl) ⟨S.ρ,upd S.γ p (S.γ p+1),upd (upd S.σ s (.box l')) p (.arr E z n el)⟩ a w':=⟨hs.size,dfr_own hs s (by rw[hblk];exact hgr),fun i hi=>(hs.slot i hi).mono hle,hW⟩
 refine ⟨v,rfl,?_⟩
 rw[hd]
 exact hK _ _ (hk κ' _ _ w' (hs'.put (some t) (rep_ren (p:=0) (g:=1) (fun _ _ _ h=>h) rfl (upd_same _ _ _) (upd_same _ _ _) hc.poR hv)))
end
end Go.Ab
namespace Go.Ab
open Go Go.RowKit
set_option linter.all false
section
variable {X:Ctx}{o:Oper}{S:St}{x:Operand}
theorem q_slV {T E:TypeId}{r q:TRow}{s g z n i j:Nat}{f:Nat→List D}{lo hi:Option Operand} (ho:o.op=.slice T x lo hi none) (hx:S.ev X x=.os s g) (hg:S.γ s=g) (hσ:S.σ s=.arr E z n f)
  (hlo:bndd X S lo i 0) (hhi:bndd X S hi j n) (hij:i≤j) (hjn:j≤n)
  (hr:nth X.Z.tab T=some r) (hk:Nat.beq r.k 3=true) (hq:nth X.Z.tab r.el=some q) (hq9:Nat.beq q.k 9=false) (hz:q.sz=z) :
  QOp X o S (.ow s g z i (j - i)):=fun κ sv a w hs=>by
 subst hz
 have hokr:=X.Z.tabOk _ _ hr (by intro e;rw[e]at hk;cases hk)
 have hokq:=X.Z.tabOk _ _ hq (by intro e;rw[e]at hq9;cases hq9)
 have hu:=slice_row hokr hk
 have hown0:=hs.wld.own s
 rw[hσ]at hown0
 obtain ⟨xs,hown,_⟩:=hown0
 have hxv:=hs.ev x
 rw[hx]at hxv
 have hxe:a.eval x=sv s:=by
  generalize a.eval x=v at hxv
  cases hxv with
  |os _ _ _ _ hh _=>exact hh hg.symm
 have fin:∀ (ad:Option Addr) (cap:Nat),sv s=.slice ad n cap→n≤cap→(Value.slice (if cap=i then ad else ad.map (·.add (i * q.sz))) (j - i) (cap - i)).oneCell'=true →
   ∃ v,Rep κ S.γ sv (.ow s g q.sz i (j - i)) v∧∀ w',Below w.heap.size w w'→(execOp a.eval o).run X.Z.P w'=.ok (.value v) w':=fun ad cap he hnc h1c=>by
  refine ⟨_,.ow s g q.sz i (j - i) _ (by omega) (fun _=>⟨ad,n,cap,he,rfl⟩) h1c,fun w' _=>?_⟩
  have:=run_sliceAt (P:=X.Z.P) (w:=w') (a:=ad) (len:=n) (cap:=cap) hu hokq (hlo.v hs) (hhi.v hs) hij (by omega)
  simp only[execOp,ho,hxe,he,Option.map_none]
  simp[this]
 rcases hown.2 with ⟨hv,hn⟩|⟨b,off,cap,cur,hv,_,_,hnc,_⟩
 ·refine fin none 0 (by rw[hv,hn]) (by omega) ?_
  split<;>rfl
 ·refine fin _ cap hv hnc ?_
  split<;>rfl
theorem n_appV {T E:TypeId}{r q:TRow}{x y:Operand}{s g z n k c m t n':Nat}{f f':Nat→List D}{ts:Array TypeId} (ho:o.op=.call { callee:=.builtin .append,args:=#[x,y],argTypes:=ts }) (hts:ts=#[T,T]) (hd:o.dst=some t)
  (hx:S.ev X x=.ow s g z 0 k) (hy:S.ev X y=.ow s g z c m) (hg:S.γ s=g) (hσ:S.σ s=.arr E z n f) (hkn:k≤n) (hcn:c+m≤n) (hkm:k+m≤n)
  (hr:nth X.Z.tab T=some r) (hk:Nat.beq r.k 3=true) (hE:r.el=E) (hq:nth X.Z.tab E=some q) (hq9:Nat.beq q.k 9=false) (hz:q.sz=z) (hzs:Nat.beq q.zs.length z=true) (hz0:Nat.beq z 0=false)
  (hb:(k+m) * q.bytes≤140737488355328) (hm:k+m≤140737488355328) (hn':n'=k+m) (h1:∀ i,i<k→f' i=f i) (h2:∀ i,i<m→f' (k+i)=f (c+i)) :
  NOp X o S (S.owned t s (.arr E z n' f')):=fun κ sv a w hs=>by
 subst hts hn'
 have hokr:=X.Z.tabOk _ _ hr (by intro e;rw[e]at hk;cases hk)
 have hokq:=X.Z.tabOk _ _ hq (by intro e;rw[e]at hq9;cases hq9)
 obtain ⟨iq,dq,hiq,hdq,hsq,hbq,⟨zv,hzv,hzf⟩,_⟩:=row_info hokq
 have hu:=slice_row hokr hk
 rw[hE]at hu
 have hown0:=hs.wld.own s
 rw[hσ]at hown0
 obtain ⟨xs,hown,hfl,hfc,hfr⟩:=hown0
 have hxv:=hs.ev x
 have hyv:=hs.ev y
 rw[hx]at hxv
 rw[hy]at hyv
 have hzl:zv.cells.size=z:=by have:=zr_len hzf;have h2:=Nat.eq_of_beq_eq_true hzs;simp at this;omega
 have hz1:0<z:=by
  cases z with
  |zero=>cases hz0
  |succ z=>omega
 have hle:∀ pv,Le κ κ S.γ (upd S.γ s (S.γ s+1)) sv (upd sv s pv):=le_renew κ S.γ sv s
 have hxl:xs.length=n * z:=hown.1
 rw[hd]
 have hxe:∃ ad N cap,sv s=.slice ad N cap∧a.eval x=.slice (if cap=0 then ad else ad.map (·.add (0 * z))) k (cap - 0):=by
  generalize a.eval x=v at hxv
  cases hxv with
  |ow _ _ _ _ _ _ _ hh _=>exact hh hg.symm
 have hye:∃ ad N cap,sv s=.slice ad N cap∧a.eval y=.slice (if cap=c then ad else ad.map (·.add (c * z))) m (cap - c):=by
  generalize a.eval y=v at hyv
  cases hyv with
  |ow _ _ _ _ _ _ _ hh _=>exact hh hg.symm
 obtain ⟨ad,N,cap,hv,hxe⟩:=hxe
 obtain ⟨ad2,N2,cap2,hv2,hye⟩:=hye
 rw[hv]at hv2
 simp only[Value.slice.injEq]at hv2
 obtain ⟨rfl,rfl,rfl⟩:=hv2
 rcases hown.2 with ⟨hv0,hn0⟩|⟨b,off,cap',cur,hv',hbase,hh,hnc,hcm,hcs,htake⟩
 ·rw[hv0]at hv
  simp only[Value.slice.injEq]at hv
  obtain ⟨rfl,rfl,rfl⟩:=hv
  have hk0:k=0:=by omega
  have hm0:m=0:=by omega
  have hc0:c=0:=by omega
  subst hk0 hm0 hc0
  have hxe':a.eval x=.slice none 0 0:=by rw[hxe];rfl
  have hye':a.eval y=.slice none 0 0:=by rw[hye];rfl
  have hrun:=run_append_none (P:=X.Z.P) (w:=w) (X.base s) T o.type E iq z hu hiq (.slice none 0 0) 0 [] ⟨by simp,.inl ⟨rfl,rfl⟩⟩
  refine ⟨.slice none 0 0,w,κ,_,.inl ?_,sim_owned hs t s (pv:=.slice none 0 0) rfl (below_grown (Below.refl _ _) _) (fun b hb=>by cases hb) ?_⟩
  ·simp[execOp,ho,resolve,invoke,builtin,hxe',hye',hrun]
  ·exact⟨[],by rw[upd_same];exact⟨by simp,.inl ⟨rfl,rfl⟩⟩,fun i hi=>by omega,fun i hi=>by omega,fun i hi=>by omega⟩
 ·rw[hv']at hv
  simp only[Value.slice.injEq]at hv
  obtain ⟨rfl,rfl,rfl⟩:=hv
  have hkz:k * z≤n * z:=Nat.mul_le_mul_right _ hkn
  have hcz:c * z+m * z≤n * z:=by rw[← Nat.add_mul];exact Nat.mul_le_mul_right _ hcn
  have hxe':a.eval x=.slice (some ⟨b,off,none⟩) k cap':=by
   rw[hxe]
   by_cases h0:cap'=0
   ·rw[if_pos h0];simp
   ·rw[if_neg h0];simp[addr_add]
  have hownk:ownsAt w (X.base s) E z (.slice (some ⟨b,off,none⟩) k cap') k (xs.take (k * z)):=by
   refine ⟨by simp;omega,.inr ⟨b,off,cap',cur,rfl,hbase,hh,by omega,hcm,hcs,?_⟩⟩
   rw[← htake,List.take_take,Nat.min_eq_left hkz]
  have hcells:∀ j u,xs[j]?=some u→w.cell? ⟨b,off+j,none⟩=some u:=fun j u hj=>by
   have:=(show ownsAt w (X.base s) E z (.slice (some ⟨b,off,none⟩) n cap') n xs from ⟨hown.1,.inr ⟨b,off,cap',cur,rfl,hbase,hh,hnc,hcm,hcs,htake⟩⟩).cells j u hj
   rwa [addr_add]at this
  obtain ⟨news,hnews⟩:∃ l,(xs.drop (c * z)).take (m * z)=l:=⟨_,rfl⟩
  have hnl:news.length=m * z:=by rw[← hnews];simp;omega
  have hng:∀ j u,news[j]?=some u→xs[c * z+j]?=some u:=fun j u hj=>by
   have hjl:=(List.getElem?_eq_some_iff.1 hj).1
   rw[← hnews,List.getElem?_take,if_pos (by omega),List.getElem?_drop]at hj
   exact hj
  have hone:∀ (j:Nat) (u:Value),xs[j]?=some u→u.oneCell'=true:=fun j u hj=>by
   have hjl:=(List.getElem?_eq_some_iff.1 hj).1
   have hkk:j % z<z:=Nat.mod_lt _ hz1
   have hi:j / z<n:=(Nat.div_lt_iff_lt_mul hz1).2 (by omega)
   have e:j=j / z * z+j % z:=by rw[Nat.mul_comm];exact(Nat.div_add_mod j z).symm
   refine RepL.oneCells (hfr _ hi) (hfc _ hi) u ?_
   refine List.mem_of_getElem? (i:=j % z) ?_
   rw[List.getElem?_take,if_pos hkk,List.getElem?_drop,← e];exact hj
  have hchunk:∀ i,i<m→(news.drop (i * z)).take z=(xs.drop ((c+i) * z)).take z:=fun i hi=>by
   have h1:i * z+z≤m * z:=by have:=Nat.mul_le_mul_right z (show i+1≤m by omega);rw[Nat.add_mul]at this;omega
   rw[← hnews,List.drop_take,List.take_take,Nat.min_eq_left (by omega),List.drop_drop,Nat.add_mul]
  obtain ⟨ya,yc,hye',hycell⟩:∃ ya yc,a.eval y=.slice (some ya) m yc∧∀ j u,news[j]?=some u→w.cell? (ya.add j)=some u:=by
   by_cases h0:cap'=c
   ·have hm0:m=0:=by omega
    refine ⟨⟨b,off,none⟩,cap' - c,by rw[hye,if_pos h0],fun j u hj=>?_⟩
    have:=(List.getElem?_eq_some_iff.1 hj).1
    rw[hnl,hm0]at this;omega
   ·refine ⟨⟨b,off+c * z,none⟩,cap' - c,by rw[hye,if_neg h0];simp[addr_add],fun j u hj=>?_⟩
    rw[addr_add,Nat.add_assoc]
    exact hcells _ _ (hng j u hj)
  obtain ⟨v',w',hrun,hown',hgr,hwh⟩:=run_append_where (P:=X.Z.P) (w:=w) (X.base s) T o.type E iq zv z q.bytes hu hiq hzv (by rw[hsq,hz]) (by rw[hbq]) hzl hz1 (.slice (some ⟨b,off,none⟩) k cap') k (xs.take (k * z)) hownk ya m yc news hnl
   hycell (fun v hv=>by
    obtain ⟨j,hj⟩:=List.getElem?_of_mem hv
    exact hone _ _ (hng j v hj)) (by unfold maxLen;omega) hb (hs.wld.baseS _)
  have hob:(Value.slice (some (⟨b,off,none⟩:Addr)) k cap').ownBlock=blk (S.σ s) (sv s):=by rw[hσ,hv'];rfl
  rw[hob]at hgr
  have hxk:(xs.take (k * z)).length=k * z:=by simp;omega
  refine ⟨v',w',κ,_,.inl ?_,sim_owned hs t s (pv:=v') ?_ hgr (fun b' hb'=>?_) ?_⟩
  ·simp[execOp,ho,resolve,invoke,builtin,hxe',hye',hrun]
  ·rcases hown'.2 with ⟨e,_⟩|⟨_,_,_,_,e,_⟩<;>rw[e]<;>rfl
  ·rw[← hob]
   refine hwh b' ?_
   rcases hown'.2 with ⟨e,_⟩|⟨_,_,_,_,e,_⟩<;>(rw[e]at hb' ⊢;exact hb')
  ·refine ⟨_,by rw[upd_same];exact hown',fun i hi=>?_,fun i hi=>?_,fun i hi=>?_⟩
   ·by_cases hin:i<k
    ·rw[h1 i hin];exact hfl i (by omega)
    ·obtain ⟨p,rfl⟩:∃ p,i=k+p:=⟨i - k,by omega⟩
     rw[h2 p (by omega)];exact hfl _ (by omega)
   ·by_cases hin:i<k
    ·rw[h1 i hin];exact hfc i (by omega)
    ·obtain ⟨p,rfl⟩:∃ p,i=k+p:=⟨i - k,by omega⟩
     rw[h2 p (by omega)];exact hfc _ (by omega)
   ·by_cases hin:i<k
    ·rw[h1 i hin,append_chunkL hxk hin]
     have hiz:i * z+z≤k * z:=by have:=Nat.mul_le_mul_right z (show i+1≤k by omega);rw[Nat.add_mul]at this;omega
     rw[List.drop_take,List.take_take,Nat.min_eq_left (by omega)]
     exact(hfr i (by omega)).mono (hle _)
    ·obtain ⟨p,rfl⟩:∃ p,i=k+p:=⟨i - k,by omega⟩
     rw[h2 p (by omega),append_chunkR hxk,hchunk p (by omega)]
     exact(hfr _ (by omega)).mono (hle _)
end
end Go.Ab
namespace Go.Ab
open Go Go.RowKit
set_option linter.all false
section
variable {X:Ctx}{S:St}{o:Oper}{T:TypeId}{r q:TRow}
theorem n_appOO {x y:Operand}{s g s2 g2 z n m t n':Nat}{E E2:TypeId}{f h f':Nat→List D}{ts:Array TypeId} (ho:o.op=.call { callee:=.builtin .append,args:=#[x,y],argTypes:=ts }) (hts:ts=#[T,T]) (hd:o.dst=some t)
  (hx:(S.ev X x=.os s g∧S.γ s=g∧S.σ s=.arr E z n f)∨(S.ev X x=.nil∧n=0∧s=t)) (hy:S.ev X y=.os s2 g2) (hg2:S.γ s2=g2) (hσ2:S.σ s2=.arr E2 z m h)
  (hr:nth X.Z.tab T=some r) (hk:Nat.beq r.k 3=true) (hE:r.el=E) (hq:nth X.Z.tab E=some q) (hq9:Nat.beq q.k 9=false) (hz:q.sz=z) (hzs:Nat.beq q.zs.length z=true) (hz0:Nat.beq z 0=false)
  (hb:(n+m) * q.bytes≤140737488355328) (hm:n+m≤140737488355328) (hn':n'=n+m) (h1:∀ i,i<n→f' i=f i) (h2:∀ i,i<m→f' (n+i)=h i) :
  NOp X o S (S.owned t s (.arr E z n' f')):=fun κ sv a w hs=>by
 subst hts hn'
 have hokr:=X.Z.tabOk _ _ hr (by intro e;rw[e]at hk;cases hk)
 have hokq:=X.Z.tabOk _ _ hq (by intro e;rw[e]at hq9;cases hq9)
 obtain ⟨iq,dq,hiq,hdq,hsq,hbq,⟨zv,hzv,hzf⟩,_⟩:=row_info hokq
 have hu:=slice_row hokr hk
 rw[hE]at hu
 -- the first one
 obtain ⟨xv,xs,hxe,hown,hfl,hfc,hfr,hbx⟩:∃ xv xs,a.eval x=xv∧ownsAt w (X.base s) E z xv n xs∧(∀ i,i<n→(f i).length=z)∧(∀ i,i<n→allCell (f i)=true)∧(∀ i,i<n→RepL κ S.γ sv (f i) ((xs.drop (i * z)).take z))∧(xv=.slice none 0 0∨blk (S.σ s) (sv s)=xv.ownBlock):=by
  rcases hx with ⟨hx,hg,hσ⟩|⟨hx,rfl,_⟩
  ·have hown0:=hs.wld.own s
   rw[hσ]at hown0
   obtain ⟨xs,hown,hfl,hfc,hfr⟩:=hown0
   have hxv:=hs.ev x
   rw[hx]at hxv
   refine ⟨sv s,xs,?_,hown,hfl,hfc,hfr,.inr ?_⟩
   ·generalize a.eval x=v at hxv
    cases hxv with
    |os _ _ _ _ hh _=>exact hh hg.symm
   ·rw[hσ]
    rcases hown.2 with ⟨e,_⟩|⟨_,_,_,_,e,_⟩<;>rw[e]<;>rfl
  ·have hxv:=hs.ev x
   rw[hx]at hxv
   refine ⟨.slice none 0 0,[],?_,ownsAt_nil _ _ _ _,fun i hi=>by omega,fun i hi=>by omega,fun i hi=>by omega,.inl rfl⟩
   generalize a.eval x=v at hxv
   cases hxv;rfl
 -- the second one
 have hown2:=hs.wld.own s2
 rw[hσ2]at hown2
 obtain ⟨ys,hownY,hyl,hyc,hyr⟩:=hown2
 have hyv:=hs.ev y
 rw[hy]at hyv
 have hye:a.eval y=sv s2:=by
  generalize a.eval y=v at hyv
  cases hyv with
  |os _ _ _ _ hh _=>exact hh hg2.symm
 have hzl:zv.cells.size=z:=by have:=zr_len hzf;have h2:=Nat.eq_of_beq_eq_true hzs;simp at this;omega
 have hz1:0<z:=by
  cases z with
  |zero=>cases hz0
  |succ z=>omega
 have hle:∀ pv,Le κ κ S.γ (upd S.γ s (S.γ s+1)) sv (upd sv s pv):=le_renew κ S.γ sv s
 have hxl:xs.length=n * z:=hown.1
 have hys:ys.length=m * z:=hownY.1
 have hrow:∀ b,xv.ownBlock=some b→blk (S.σ s) (sv s)=some b:=fun b hb=>by
  rcases hbx with e|e
  ·rw[e]at hb;cases hb
  ·rw[e];exact hb
 have hgrow:∀ {w':World},w.grownBy w' xv.ownBlock→w.grownBy w' (blk (S.σ s) (sv s)):=fun {w'} hgr=>by
  rcases hbx with e|e
  ·rw[e]at hgr
   exact⟨hgr.os,hgr.tape,hgr.output,hgr.size,fun k hk _=>hgr.block k hk (by simp[Value.ownBlock])⟩
  ·rw[e];exact hgr
 rw[hd]
 have fin:∀ (v':Value) (w':World),(Builtin.append_ #[T,T] o.type #[xv,sv s2]).run X.Z.P w=.ok v' w'→ownsAt w' (X.base s) E z v' (n+m) (xs++ys)→w.grownBy w' xv.ownBlock→(∀ b',v'.ownBlock=some b'→w.heap.size≤b'∨xv.ownBlock=some b') →
   ∃ v w' κ' sv',((execOp a.eval o).run X.Z.P w=.ok (.value v) w'∨((execOp a.eval o).run X.Z.P w=.ok .skip w'∧v=Go.undef))∧Sim X κ' sv' (S.owned t s (.arr E z (n+m) f')) (a.put (some t) v) w':=fun v' w' hrun hown' hgr hwh=>by
  refine ⟨v',w',κ,_,.inl ?_,sim_owned hs t s (pv:=v') ?_ (hgrow hgr) (fun b' hb'=>?_) ?_⟩
  ·simp[execOp,ho,resolve,invoke,builtin,hxe,hye,hrun]
  ·rcases hown'.2 with ⟨e,_⟩|⟨_,_,_,_,e,_⟩<;>rw[e]<;>rfl
  ·have hb2:v'.ownBlock=some b':=by
    rcases hown'.2 with ⟨e,_⟩|⟨_,_,_,_,e,_⟩<;>(rw[e]at hb' ⊢;exact hb')
   rcases hwh b' hb2 with h|h
   ·exact .inl h
   ·exact .inr (hrow b' h)
  ·refine ⟨_,by rw[upd_same];exact hown',fun i hi=>?_,fun i hi=>?_,fun i hi=>?_⟩
   ·by_cases hin:i<n
    ·rw[h1 i hin];exact hfl i hin
    ·obtain ⟨k,rfl⟩:∃ k,i=n+k:=⟨i - n,by omega⟩
     rw[h2 k (by omega)];exact hyl k (by omega)
   ·by_cases hin:i<n
    ·rw[h1 i hin];exact hfc i hin
    ·obtain ⟨k,rfl⟩:∃ k,i=n+k:=⟨i - n,by omega⟩
     rw[h2 k (by omega)];exact hyc k (by omega)
   ·by_cases hin:i<n
    ·rw[h1 i hin,append_chunkL hxl hin];exact(hfr i hin).mono (hle _)
    ·obtain ⟨k,rfl⟩:∃ k,i=n+k:=⟨i - n,by omega⟩
     rw[h2 k (by omega),append_chunkR hxl]
     exact(hyr k (by omega)).mono (hle _)
 rcases hownY.2 with ⟨ev,rfl⟩|⟨g3,off,cap,cur,ev,q1,q2,q3,q4,q5,q6⟩
 ·have hy0:ys=[]:=List.eq_nil_of_length_eq_zero (by simpa using hys)
  subst hy0
  have hrun:=run_append_none (P:=X.Z.P) (w:=w) (X.base s) T o.type E iq z hu hiq xv n xs hown
  rw[← ev]at hrun
  exact fin xv w hrun (by simpa using hown) (below_grown (Below.refl _ _) _) (fun b hb=>.inr hb)
 ·rw[ev]at hownY
  obtain ⟨v',w',hrun,hown',hgr,hwh⟩:=run_append_where (P:=X.Z.P) (w:=w) (X.base s) T o.type E iq zv z q.bytes hu hiq hzv (by rw[hsq,hz]) (by rw[hbq]) hzl hz1 xv n xs hown ⟨g3,off,none⟩ m cap ys hys
   (fun j v hj=>hownY.cells j v hj)
   (fun v hv=>by
    obtain ⟨j,hj⟩:=List.getElem?_of_mem hv
    have hjl:=(List.getElem?_eq_some_iff.1 hj).1
    rw[hys]at hjl
    have hk:j % z<z:=Nat.mod_lt _ hz1
    have hi:j / z<m:=(Nat.div_lt_iff_lt_mul hz1).2 hjl
    have e:j=j / z * z+j % z:=by rw[Nat.mul_comm];exact(Nat.div_add_mod j z).symm
    refine RepL.oneCells (hyr _ hi) (hyc _ hi) v ?_
    refine List.mem_of_getElem? (i:=j % z) ?_
    rw[List.getElem?_take,if_pos hk,List.getElem?_drop,← e]
    exact hj)
   (by unfold maxLen;omega) hb (hs.wld.baseS _)
  rw[← ev]at hrun
  exact fin v' w' hrun hown' hgr hwh
def PostO (κ:Nat→Nat→Option Value) (w:World) (R:D) (E z n:Nat) (el:Nat→List D) (e:Ending) (w':World):Prop:=∃ v sl κ',e=.returned v∧Rep κ' (fun _=>1) (fun _=>sl) (renO 0 1 R) v∧(∀ b o u,κ b o=some u→κ' b o=some u)∧(∀ b o u,b<w.heap.size→κ' b o=some u→κ b o=some u) ∧
 (∀ b o u,κ' b o=some u→w'.cell? ⟨b,o,none⟩=some u)∧sl.oneCell'=true∧Owns w.heap.size κ' (fun _=>1) (fun _=>sl) w' 0 (.arr E z n el)∧(∀ b,blk (.arr E z n el) sl=some b→∀ o,κ' b o=none)∧Below w.heap.size w w'
theorem rep_scal1 {κ κ':Nat→Nat→Option Value}{γ γ':Nat→Nat}{sv sv':Nat→Value}{d:D}{v v0:Value} (h:scal1 d=some v0) (hr:Rep κ γ sv d v):Rep κ' γ' sv' d v:=by
 cases d<;>simp[scal1]at h
 ·cases hr;exact .int _ _
 ·cases hr;exact .bool _
 ·cases hr;exact .str _
theorem owns_ge' {base:Nat}{κ:Nat→Nat→Option Value}{γ:Nat→Nat}{sv:Nat→Value}{w:World}{s:Nat}{E z m:Nat}{f:Nat→List D} (h:Owns base κ γ sv w s (.arr E z m f)):∀ b,blk (.arr E z m f) (sv s)=some b→base≤b:=fun b hb=>by
 obtain ⟨xs,e1,_⟩:=h
 rcases e1.2 with ⟨hv,_⟩|⟨g,off,cap,cur,hv,hbase,_⟩
 ·rw[hv]at hb;cases hb
 ·rw[hv]at hb;simp only[blk,Option.some.injEq]at hb;subst hb;exact hbase
end
end Go.Ab
namespace Go.Ab
open Go Go.RowKit
set_option linter.all false
theorem wk_mv {X:Ctx}{S:St}{t p q g E z n:Nat}{f:Nat→List D} (hne:p≠q) (hρ:S.ρ t=.os p g) (hg:S.γ p=g) (hσ:S.σ p=.arr E z n f) (hp:X.xa p=false) (hq:X.xa q=false) :
  Wk X S ⟨upd S.ρ t (.os q (S.γ q+1)),upd S.γ q (S.γ q+1),upd (upd S.σ q (.arr E z n f)) p .none⟩:=fun κ sv a w hs=>by
 have hle:Le κ κ S.γ (upd S.γ q (S.γ q+1)) sv (upd sv q (sv p)):=by
  refine ⟨fun _ _ _ h=>h,fun s=>?_,fun s h=>?_⟩
  ·by_cases e:s=q
   ·subst e;rw[upd_same];omega
   ·rw[upd_ne _ _ _ _ e];exact Nat.le_refl _
  ·by_cases e:s=q
   ·subst e;rw[upd_same]at h;omega
   ·rw[upd_ne _ _ _ _ e]
 have hb:X.base q=X.base p:=by unfold Ctx.base;rw[hp,hq]
 have key:∀ s b,blk ((upd (upd S.σ q (.arr E z n f)) p .none) s) ((upd sv q (sv p)) s)=some b→∃ s0,blk (S.σ s0) (sv s0)=some b∧(s=q∧s0=p∨s≠q∧s≠p∧s0=s):=fun s b h=>by
  by_cases e:s=p
  ·subst e;rw[upd_same]at h;cases h
  ·rw[upd_ne _ _ _ _ e]at h
   by_cases e2:s=q
   ·subst e2;rw[upd_same,upd_same]at h
    exact⟨p,by rw[hσ];exact h,.inl ⟨rfl,rfl⟩⟩
   ·rw[upd_ne _ _ _ _ e2,upd_ne _ _ _ _ e2]at h
    exact⟨s,h,.inr ⟨e2,e,rfl⟩⟩
 refine ⟨κ,upd sv q (sv p),hs.size,hs.defers,fun j hj=>?_,?_⟩
 ·by_cases e:j=t
  ·subst e
   have:=hs.slot j hj
   rw[hρ]at this
   show Rep _ _ _ (upd S.ρ j (.os q (S.γ q+1)) j) _
   rw[upd_same]
   cases this with
   |os _ _ _ a b c=>exact .os _ _ _ (Nat.le_of_eq (upd_same _ _ _).symm) (fun _=>by rw[upd_same];exact b hg.symm) c
  ·show Rep _ _ _ (upd S.ρ t (.os q (S.γ q+1)) j) _
   rw[upd_ne _ _ _ _ e]
   exact(hs.slot j hj).mono hle
 ·obtain ⟨h1,h2,h3,h4,h5,h6,h7,h8,h9,h10,h11,h12,h13,h14,h15⟩:=hs.wld
  refine ⟨h1,fun s=>?_,fun s t b hs1 ht1=>?_,fun s b o h=>?_,fun s b h=>?_,?_,fun g l hl=>?_,h8,fun b hb1=>?_,h10,h11.trans hle,h12,fun s b h=>?_,h14,h15⟩
  ·show Owns _ _ _ _ _ _ (upd (upd S.σ q (.arr E z n f)) p .none s)
   by_cases e:s=p
   ·subst e;rw[upd_same];trivial
   ·rw[upd_ne _ _ _ _ e]
    by_cases e2:s=q
    ·subst e2
     rw[upd_same,hb]
     have:=h2 p
     rw[hσ]at this
     obtain ⟨xs,o1,o2,o3,o4⟩:=this
     exact⟨xs,by rw[upd_same];exact o1,o2,o3,fun i hi=>(o4 i hi).mono hle⟩
    ·rw[upd_ne _ _ _ _ e2]
     have:=h2 s
     cases ho:S.σ s with
     |none=>trivial
     |box l =>
      rw[ho]at this
      obtain ⟨b,T,cs,o1,o2,o3,o4⟩:=this
      exact⟨b,T,cs,by rw[upd_ne _ _ _ _ e2];exact o1,o2,o3.mono hle,o4⟩
     |arr E2 z2 n2 f2 =>
      rw[ho]at this
      obtain ⟨xs,o1,o2,o3,o4⟩:=this
      exact⟨xs,by rw[upd_ne _ _ _ _ e2];exact o1,o2,o3,fun i hi=>(o4 i hi).mono hle⟩
     |mp l =>
      rw[ho]at this
      obtain ⟨b,es,c,o1,o2,o3⟩:=this
      exact⟨b,es,c,by rw[upd_ne _ _ _ _ e2];exact o1,o2,o3⟩
     |si t p =>
      rw[ho]at this
      obtain ⟨b,o1,o2⟩:=this
      exact⟨b,by rw[upd_ne _ _ _ _ e2];exact o1,o2⟩
  ·obtain ⟨s0,k1,k2⟩:=key s b hs1
   obtain ⟨t0,k3,k4⟩:=key t b ht1
   have e:=h3 s0 t0 b k1 k3
   omega
  ·obtain ⟨s0,k1,_⟩:=key s b h;exact h4 s0 b o k1
  ·obtain ⟨s0,k1,_⟩:=key s b h;exact h5 s0 b k1
  ·obtain ⟨M,m1,m2⟩:=h6
   exact⟨M,m1,fun s b h=>by obtain ⟨s0,k1,_⟩:=key s b h;exact m2 s0 b k1⟩
  ·obtain ⟨u1,u,u2,u3⟩:=h7 g l hl
   exact⟨u1,u,u2.mono hle,u3⟩
  ·obtain ⟨p1,p2⟩:=h9 b hb1
   by_cases e:0=q
   ·subst e;show 1≤upd S.γ 0 (S.γ 0+1) 0∧(upd S.γ 0 (S.γ 0+1) 0=1→_)
    rw[upd_same];exact⟨by omega,fun h=>by omega⟩
   ·show 1≤upd S.γ q (S.γ q+1) 0∧(upd S.γ q (S.γ q+1) 0=1→upd sv q (sv p) 0=_)
    rw[upd_ne _ _ _ _ e,upd_ne _ _ _ _ e];exact⟨p1,p2⟩
  ·obtain ⟨s0,k1,_⟩:=key s b h;exact h13 s0 b k1
end Go.Ab
namespace Go.Ab
open Go Go.RowKit
set_option linter.all false
structure Span where
 Lo:Int
 Hi:Int
 deriving DecidableEq
def dfltSpan:Span:=⟨0,0⟩
instance:Inhabited Span:=⟨dfltSpan⟩
structure Three where
 a:Int
 b:Int
 c:Int
 deriving DecidableEq
def dfltThree:Three:=⟨0,0,0⟩
instance:Inhabited Three:=⟨dfltThree⟩
structure Rech where
 Long:Int
 Slope:Int
 Thin:Int
 Grow:Int
 Every:Int
 deriving DecidableEq
def dfltRech:Rech:=⟨0,0,0,0,0⟩
instance:Inhabited Rech:=⟨dfltRech⟩
structure Survey where
 Reaches:List Rech
 Sight:Three
 deriving DecidableEq
def dfltSurvey:Survey:=⟨[],dfltThree⟩
instance:Inhabited Survey:=⟨dfltSurvey⟩
structure Look where
 Kind:Int
 At:Int
 Hour:Int
 Value:Span
 deriving DecidableEq
def dfltLook:Look:=⟨0,0,0,dfltSpan⟩
instance:Inhabited Look:=⟨dfltLook⟩
structure Mrk where
 Kind:Int
 From:Int
 To:Int
 Hour:Int
 Speed:Int
 deriving DecidableEq
def dfltMrk:Mrk:=⟨0,0,0,0,0⟩
instance:Inhabited Mrk:=⟨dfltMrk⟩
structure Closure where
 From:Int
 To:Int
 Reason:Int
 deriving DecidableEq
def dfltClosure:Closure:=⟨0,0,0⟩
instance:Inhabited Closure:=⟨dfltClosure⟩
structure Share where
 From:Int
 Part:Int
 deriving DecidableEq
def dfltShare:Share:=⟨0,0⟩
instance:Inhabited Share:=⟨dfltShare⟩
structure Plate where
 Strength:Span
 Shares:List Share
 Creep:List Share
 Near:Int
 Edge:Int
 Gravity:Int
 Low:Int
 High:Int
 Shore:Int
 Wider:Int
 deriving DecidableEq
def dfltPlate:Plate:=⟨dfltSpan,[],[],0,0,0,0,0,0,0⟩
instance:Inhabited Plate:=⟨dfltPlate⟩
structure Account where
 Name:ByteArray
 Kind:Int
 Open:Span
 Close:Span
 deriving DecidableEq
def dfltAccount:Account:=⟨⟨#[]⟩,0,dfltSpan,dfltSpan⟩
instance:Inhabited Account:=⟨dfltAccount⟩
structure Mov where
 From:Int
 To:Int
 Litres:Span
 deriving DecidableEq
def dfltMov:Mov:=⟨0,0,dfltSpan⟩
instance:Inhabited Mov:=⟨dfltMov⟩
structure Book where
 Accounts:List Account
 Moves:List Mov
 deriving DecidableEq
def dfltBook:Book:=⟨[],[]⟩
instance:Inhabited Book:=⟨dfltBook⟩
structure Path where
 A:Int
 B:Int
 Time:Span
 Open:Int
 deriving DecidableEq
def dfltPath:Path:=⟨0,0,dfltSpan,0⟩
instance:Inhabited Path:=⟨dfltPath⟩
structure Post where
 Spot:Int
 Ready:Span
 From:Int
 To:Int
 Flies:Int
 Air:List Span
 deriving DecidableEq
def dfltPost:Post:=⟨0,dfltSpan,0,0,0,[]⟩
instance:Inhabited Post:=⟨dfltPost⟩
structure Chill where
 Warm:Int
 Minutes:Span
 deriving DecidableEq
def dfltChill:Chill:=⟨0,dfltSpan⟩
instance:Inhabited Chill:=⟨dfltChill⟩
structure Rescue where
 Spots:Int
 Paths:List Path
 Posts:List Post
 Water:List Span
 Chills:List Chill
 deriving DecidableEq
def dfltRescue:Rescue:=⟨0,[],[],[],[]⟩
instance:Inhabited Rescue:=⟨dfltRescue⟩
structure Rules where
 Drive:Int
 Rest:Int
 Day:Int
 Most:Int
 deriving DecidableEq
def dfltRules:Rules:=⟨0,0,0,0⟩
instance:Inhabited Rules:=⟨dfltRules⟩
structure Turn where
 From:Span
 To:Span
 deriving DecidableEq
def dfltTurn:Turn:=⟨dfltSpan,dfltSpan⟩
instance:Inhabited Turn:=⟨dfltTurn⟩
structure Driver where
 Name:ByteArray
 Skills:Int
 Turns:List Turn
 deriving DecidableEq
def dfltDriver:Driver:=⟨⟨#[]⟩,0,[]⟩
instance:Inhabited Driver:=⟨dfltDriver⟩
structure Scale where
 Zero:Int
 Part:Int
 deriving DecidableEq
def dfltScale:Scale:=⟨0,0⟩
instance:Inhabited Scale:=⟨dfltScale⟩
structure Allow where
 Axle:Int
 Total:Int
 deriving DecidableEq
def dfltAllow:Allow:=⟨0,0⟩
instance:Inhabited Allow:=⟨dfltAllow⟩
structure Region where
 Survey:Survey
 Plate:Plate
 Gap:Int
 Fails:Int
 Pace:Span
 Book:Book
 Rescue:Rescue
 Rules:Rules
 Drivers:List Driver
 Scale:Scale
 Allow:Allow
 deriving DecidableEq
def dfltRegion:Region:=⟨dfltSurvey,dfltPlate,0,0,dfltSpan,dfltBook,dfltRescue,dfltRules,[],dfltScale,dfltAllow⟩
instance:Inhabited Region:=⟨dfltRegion⟩
structure Hold where
 At:Int
 Until:Int
 deriving DecidableEq
def dfltHold:Hold:=⟨0,0⟩
instance:Inhabited Hold:=⟨dfltHold⟩
structure Truck where
 Way:Int
 Start:Int
 Pace:Span
 Holds:List Hold
 deriving DecidableEq
def dfltTruck:Truck:=⟨0,0,dfltSpan,[]⟩
instance:Inhabited Truck:=⟨dfltTruck⟩
structure Convoy where
 Length:Int
 Gap:Int
 Fails:Int
 Trucks:List Truck
 deriving DecidableEq
def dfltConvoy:Convoy:=⟨0,0,0,[]⟩
instance:Inhabited Convoy:=⟨dfltConvoy⟩
structure Rolling where
 Driver:Int
 Weight:Int
 Truck:Truck
 deriving DecidableEq
def dfltRolling:Rolling:=⟨0,0,dfltTruck⟩
instance:Inhabited Rolling:=⟨dfltRolling⟩
structure Desk where
 Minute:Int
 Looks:List Look
 Marks:List Mrk
 Trucks:List Rolling
 Drivers:List Driver
 Book:Book
 deriving DecidableEq
def dfltDesk:Desk:=⟨0,[],[],[],[],dfltBook⟩
instance:Inhabited Desk:=⟨dfltDesk⟩
structure Disp where
 Desk:Desk
 r:Region
 deriving DecidableEq
def dfltDisp:Disp:=⟨dfltDesk,dfltRegion⟩
instance:Inhabited Disp:=⟨dfltDisp⟩
structure Ord1 where
 verb:ByteArray
 way:ByteArray
 name:ByteArray
 n:List Int
 deriving DecidableEq
def dfltOrd1:Ord1:=⟨⟨#[]⟩,⟨#[]⟩,⟨#[]⟩,[]⟩
instance:Inhabited Ord1:=⟨dfltOrd1⟩
structure Grnd where
 s:Survey
 slopes:List Int
 reach:List Rech
 deriving DecidableEq
def dfltGrnd:Grnd:=⟨dfltSurvey,[],[]⟩
instance:Inhabited Grnd:=⟨dfltGrnd⟩
structure Shift where
 Driver:Driver
 rules:Rules
 deriving DecidableEq
def dfltShift:Shift:=⟨dfltDriver,dfltRules⟩
instance:Inhabited Shift:=⟨dfltShift⟩
structure Meeting where
 Minute:Int
 First:Int
 Second:Int
 FirstFails:Bool
 SecondFails:Bool
 At:Int
 Other:Int
 deriving DecidableEq
def dfltMeeting:Meeting:=⟨0,0,0,false,false,0,0⟩
instance:Inhabited Meeting:=⟨dfltMeeting⟩
structure Nearness where
 gap:Int
 fails:Int
 deriving DecidableEq
def dfltNearness:Nearness:=⟨0,0⟩
instance:Inhabited Nearness:=⟨dfltNearness⟩
structure Ride where
 Truck:Truck
 length:Int
 deriving DecidableEq
def dfltRide:Ride:=⟨dfltTruck,0⟩
instance:Inhabited Ride:=⟨dfltRide⟩
structure Track where
 ride:Ride
 gone:List Span
 deriving DecidableEq
def dfltTrack:Track:=⟨dfltRide,[]⟩
instance:Inhabited Track:=⟨dfltTrack⟩
structure Lanes where
 a:Track
 b:Track
 deriving DecidableEq
def dfltLanes:Lanes:=⟨dfltTrack,dfltTrack⟩
instance:Inhabited Lanes:=⟨dfltLanes⟩
structure Side where
 worst:Bool
 deriving DecidableEq
def dfltSide:Side:=⟨false⟩
instance:Inhabited Side:=⟨dfltSide⟩
structure Scene where
 side:Side
 Plate:Plate
 ice:List Span
 cracks:List Span
 deriving DecidableEq
def dfltScene:Scene:=⟨dfltSide,dfltPlate,[],[]⟩
instance:Inhabited Scene:=⟨dfltScene⟩
structure Watch where
 Rescue:Rescue
 times:List (List Span)
 lives:List Span
 deriving DecidableEq
def dfltWatch:Watch:=⟨dfltRescue,[],[]⟩
instance:Inhabited Watch:=⟨dfltWatch⟩
structure Two where
 a:Span
 b:Span
 deriving DecidableEq
def dfltTwo:Two:=⟨dfltSpan,dfltSpan⟩
instance:Inhabited Two:=⟨dfltTwo⟩
structure Pair where
 a:Int
 b:Int
 deriving DecidableEq
def dfltPair:Pair:=⟨0,0⟩
instance:Inhabited Pair:=⟨dfltPair⟩
structure Quad where
 a:Pair
 b:Pair
 deriving DecidableEq
def dfltQuad:Quad:=⟨dfltPair,dfltPair⟩
instance:Inhabited Quad:=⟨dfltQuad⟩
structure Four where
 a:Int
 b:Int
 c:Int
 d:Int
 deriving DecidableEq
def dfltFour:Four:=⟨0,0,0,0⟩
instance:Inhabited Four:=⟨dfltFour⟩
structure Seed where
 word:Int
 deriving DecidableEq
def dfltSeed:Seed:=⟨0⟩
instance:Inhabited Seed:=⟨dfltSeed⟩
inductive T where
 |int (k:IntKind)|bool|str|sl (t:T)|ptr (t:T)|clo (f:FuncId) (t:T)|clov (t:T)|clo0 (f:FuncId)|err|clo2 (f:FuncId) (t u:T)|clo3 (f:FuncId) (t u v:T)|mfn (f:FuncId) (t:T)
 |Span|Three|Rech|Survey|Look|Mrk|Closure|Share|Plate|Account|Mov|Book|Path|Post|Chill|Rescue|Rules|Turn|Driver|Scale|Allow|Region|Hold|Truck|Convoy|Rolling|Desk|Disp|Ord1|Grnd|Shift|Meeting|Nearness|Ride|Track|Lanes|Side|Scene|Watch|Two|Pair|Quad|Four|Seed
 deriving DecidableEq
@[reducible] def den:T→Type
 |.int _=>Int
 |.bool=>Bool
 |.str=>ByteArray
 |.sl t=>List (den t)
 |.ptr t=>den t
 |.clo _ t=>den t
 |.clov t=>Nat×den t
 |.clo0 _=>Unit
 |.err=>Bool
 |.clo2 _ t u=>den t×den u
 |.clo3 _ t u v=>den t×den u×den v
 |.mfn _ t=>den t
 |.Span=>Span
 |.Three=>Three
 |.Rech=>Rech
 |.Survey=>Survey
 |.Look=>Look
 |.Mrk=>Mrk
 |.Closure=>Closure
 |.Share=>Share
 |.Plate=>Plate
 |.Account=>Account
 |.Mov=>Mov
 |.Book=>Book
 |.Path=>Path
 |.Post=>Post
 |.Chill=>Chill
 |.Rescue=>Rescue
 |.Rules=>Rules
 |.Turn=>Turn
 |.Driver=>Driver
 |.Scale=>Scale
 |.Allow=>Allow
 |.Region=>Region
 |.Hold=>Hold
 |.Truck=>Truck
 |.Convoy=>Convoy
 |.Rolling=>Rolling
 |.Desk=>Desk
 |.Disp=>Disp
 |.Ord1=>Ord1
 |.Grnd=>Grnd
 |.Shift=>Shift
 |.Meeting=>Meeting
 |.Nearness=>Nearness
 |.Ride=>Ride
 |.Track=>Track
 |.Lanes=>Lanes
 |.Side=>Side
 |.Scene=>Scene
 |.Watch=>Watch
 |.Two=>Two
 |.Pair=>Pair
 |.Quad=>Quad
 |.Four=>Four
 |.Seed=>Seed
def sz:T→Nat
 |.Span=>2
 |.Three=>3
 |.Rech=>5
 |.Survey=>4
 |.Look=>5
 |.Mrk=>5
 |.Closure=>3
 |.Share=>2
 |.Plate=>11
 |.Account=>6
 |.Mov=>4
 |.Book=>2
 |.Path=>5
 |.Post=>7
 |.Chill=>3
 |.Rescue=>5
 |.Rules=>4
 |.Turn=>4
 |.Driver=>3
 |.Scale=>2
 |.Allow=>2
 |.Region=>35
 |.Hold=>2
 |.Truck=>5
 |.Convoy=>4
 |.Rolling=>7
 |.Desk=>7
 |.Disp=>42
 |.Ord1=>4
 |.Grnd=>6
 |.Shift=>7
 |.Meeting=>7
 |.Nearness=>2
 |.Ride=>6
 |.Track=>7
 |.Lanes=>14
 |.Side=>1
 |.Scene=>14
 |.Watch=>7
 |.Two=>4
 |.Pair=>2
 |.Quad=>4
 |.Four=>4
 |.Seed=>1
 |_=>1
def dflt:(t:T)→den t
 |.int _=>(0:Int)
 |.bool=>false
 |.str=>(⟨#[]⟩:ByteArray)
 |.sl t=>([]:List (den t))
 |.ptr t=>dflt t
 |.clo _ t=>dflt t
 |.clov t=>(0,dflt t)
 |.clo0 _=>()
 |.err=>false
 |.clo2 _ t u=>(dflt t,dflt u)
 |.clo3 _ t u v=>(dflt t,dflt u,dflt v)
 |.mfn _ t=>dflt t
 |.Span=>dfltSpan
 |.Three=>dfltThree
 |.Rech=>dfltRech
 |.Survey=>dfltSurvey
 |.Look=>dfltLook
 |.Mrk=>dfltMrk
 |.Closure=>dfltClosure
 |.Share=>dfltShare
 |.Plate=>dfltPlate
 |.Account=>dfltAccount
 |.Mov=>dfltMov
 |.Book=>dfltBook
 |.Path=>dfltPath
 |.Post=>dfltPost
 |.Chill=>dfltChill
 |.Rescue=>dfltRescue
 |.Rules=>dfltRules
 |.Turn=>dfltTurn
 |.Driver=>dfltDriver
 |.Scale=>dfltScale
 |.Allow=>dfltAllow
 |.Region=>dfltRegion
 |.Hold=>dfltHold
 |.Truck=>dfltTruck
 |.Convoy=>dfltConvoy
 |.Rolling=>dfltRolling
 |.Desk=>dfltDesk
 |.Disp=>dfltDisp
 |.Ord1=>dfltOrd1
 |.Grnd=>dfltGrnd
 |.Shift=>dfltShift
 |.Meeting=>dfltMeeting
 |.Nearness=>dfltNearness
 |.Ride=>dfltRide
 |.Track=>dfltTrack
 |.Lanes=>dfltLanes
 |.Side=>dfltSide
 |.Scene=>dfltScene
 |.Watch=>dfltWatch
 |.Two=>dfltTwo
 |.Pair=>dfltPair
 |.Quad=>dfltQuad
 |.Four=>dfltFour
 |.Seed=>dfltSeed
inductive I where
 |int (k:IntKind) (n:Int)
 |bool (b:Bool)
 |str (s:ByteArray)
 |agg (l:List I)
 |tup (l:List I)
 |sl (t:T) (l:List (den t))
 |nsl (t:T) (l:List (den t))
 |nil
 |rp (l:List I) (o:Nat)
 |bx (s g o:Nat)
 |mb (s g:Nat) (T:TypeId)
 |os (s g:Nat)
 |op (s g z i o:Nat)
 |ow (s g z a m:Nat)
 |fn (f:FuncId) (c:List I)
 |yl (l:Nat)
 |mf (f:FuncId) (c:List I)
 |one
 |lk (c:LK)
 |er (b:Bool)
 |undef
instance:Inhabited I:=⟨.undef⟩
def ofB (b:Bool):LK:=bif b then .ni else .nn
def tEr:List I→Option Bool
 |[.er b]=>some b
 |_=>none
theorem tEr_ok {r:List I}{x:Bool} (h:tEr r=some x):r=[.er x]:=by
 unfold tEr at h
 split at h
 ·simp only[Option.some.injEq]at h;rw[h]
 ·cases h
def tI (k:IntKind):List I→Option (Int×List I)
 |.int k' n::r=>if k'=k then some (n,r) else none
 |_=>none
def tB:List I→Option (Bool×List I)
 |.bool b::r=>some (b,r)
 |_=>none
def tS:List I→Option (ByteArray×List I)
 |.str b::r=>some (b,r)
 |_=>none
def asL (t t':T) (l:List (den t')):Option (List (den t)):=if h:t'=t then some (h ▸ l) else none
def tL (t:T):List I→Option (List (den t)×List I)
 |.sl t' l::r=>match asL t t' l with|some l=>some (l,r)|none=>none
 |.nsl t' l::r=>match asL t t' l with|some l=>some (l,r)|none=>none
 |.nil::r=>some ([],r)
 |_=>none
def tE {α:Type}:List I→α→Option α
 |[],a=>some a
 |_,_=>none
def noNil:List I→Bool
 |[]=>true
 |.nil::_=>false
 |.nsl _ _::_=>false
 |_::l=>noNil l
def tP {α:Type} (dec:List I→Option α):List I→Option α
 |.rp l o::r=>(match r with|[]=>bif noNil l&&Nat.beq o 0 then dec l else none|_=>none)
 |_=>none
def tC {α:Type} (f:FuncId) (dec:List I→Option α):List I→Option α
 |.fn g c::r=>(match r with|[]=>bif Nat.beq g f then tP dec c else none|_=>none)
 |_=>none
def isNilI:I→Bool
 |.nil=>true
 |_=>false
def nlE:List I→List I→Bool
 |[],[]=>true
 |.nil::l,d::m=>isNilI d&&nlE l m
 |.nsl _ _::_,_=>false
 |_::l,_::m=>nlE l m
 |_,_=>false
def tPe {α:Type} (dec:List I→Option α) (enc:α→List I):List I→Option α
 |.rp l o::r=>(match r with|[]=>(match dec l with|some x=>bif nlE l (enc x)&&Nat.beq o 0 then some x else none|none=>none)|_=>none)
 |_=>none
def tCv {α:Type} (dec:List I→Option α) (enc:α→List I):List I→Option (Nat×α)
 |.fn g c::r=>(match r with|[]=>(tPe dec enc c).bind fun a=>some (g,a)|_=>none)
 |_=>none
def tC0 (f:FuncId):List I→Option Unit
 |.fn g c::r=>(match r with|[]=>bif Nat.beq g f then (match c with|[]=>some ()|_=>none) else none|_=>none)
 |_=>none
def tC2 {α β:Type} (f:FuncId) (da:List I→Option α) (db:List I→Option β):List I→Option (α×β)
 |.fn g c::r=>(match r with|[]=>bif Nat.beq g f then (match c with|x::ys=>(tP da [x]).bind fun a=>(tP db ys).bind fun b=>some (a,b)|_=>none) else none|_=>none)
 |_=>none
def tC3 {α β γ:Type} (f:FuncId) (da:List I→Option α) (db:List I→Option β) (dc:List I→Option γ):List I→Option (α×β×γ)
 |.fn g c::r=>(match r with|[]=>bif Nat.beq g f then (match c with|x::y::ys=>(tP da [x]).bind fun a=>(tP db [y]).bind fun b=>(tP dc ys).bind fun d=>some (a,b,d)|_=>none) else none|_=>none)
 |_=>none
def tM {α:Type} (f:FuncId) (dec:List I→Option α):List I→Option α
 |.mf g c::r=>(match r with|[]=>bif Nat.beq g f then (match c with|[.agg l]=>bif noNil l then dec l else none|_=>none) else none|_=>none)
 |_=>none
@[reducible] def encs (t:T) (l:List (den t)):List I:=[.sl t l]
def encSpan (x:Span):List I:=[.int .i64 x.Lo,.int .i64 x.Hi]
def decSpan (r:List I):Option Span:=(tI .i64 r).bind fun p0=>(tI .i64 p0.2).bind fun p1=>tE p1.2 ⟨p0.1,p1.1⟩
def encThree (x:Three):List I:=[.int .i64 x.a,.int .i64 x.b,.int .i64 x.c]
def decThree (r:List I):Option Three:=(tI .i64 r).bind fun p0=>(tI .i64 p0.2).bind fun p1=>(tI .i64 p1.2).bind fun p2=>tE p2.2 ⟨p0.1,p1.1,p2.1⟩
def encRech (x:Rech):List I:=[.int .i64 x.Long,.int .i64 x.Slope,.int .i64 x.Thin,.int .i64 x.Grow,.int .i64 x.Every]
def decRech (r:List I):Option Rech:=(tI .i64 r).bind fun p0=>(tI .i64 p0.2).bind fun p1=>(tI .i64 p1.2).bind fun p2=>(tI .i64 p2.2).bind fun p3=>(tI .i64 p3.2).bind fun p4=>tE p4.2 ⟨p0.1,p1.1,p2.1,p3.1,p4.1⟩
def encSurvey (x:Survey):List I:=[.sl .Rech x.Reaches,.int .i64 x.Sight.a,.int .i64 x.Sight.b,.int .i64 x.Sight.c]
def decSurvey (r:List I):Option Survey:=(tL .Rech r).bind fun p0=>(tI .i64 p0.2).bind fun p1=>(tI .i64 p1.2).bind fun p2=>(tI .i64 p2.2).bind fun p3=>tE p3.2 ⟨p0.1,⟨p1.1,p2.1,p3.1⟩⟩
def encLook (x:Look):List I:=[.int .i64 x.Kind,.int .i64 x.At,.int .i64 x.Hour,.int .i64 x.Value.Lo,.int .i64 x.Value.Hi]
def decLook (r:List I):Option Look:=(tI .i64 r).bind fun p0=>(tI .i64 p0.2).bind fun p1=>(tI .i64 p1.2).bind fun p2=>(tI .i64 p2.2).bind fun p3=>(tI .i64 p3.2).bind fun p4=>tE p4.2 ⟨p0.1,p1.1,p2.1,⟨p3.1,p4.1⟩⟩
def encMrk (x:Mrk):List I:=[.int .i64 x.Kind,.int .i64 x.From,.int .i64 x.To,.int .i64 x.Hour,.int .i64 x.Speed]
def decMrk (r:List I):Option Mrk:=(tI .i64 r).bind fun p0=>(tI .i64 p0.2).bind fun p1=>(tI .i64 p1.2).bind fun p2=>(tI .i64 p2.2).bind fun p3=>(tI .i64 p3.2).bind fun p4=>tE p4.2 ⟨p0.1,p1.1,p2.1,p3.1,p4.1⟩
def encClosure (x:Closure):List I:=[.int .i64 x.From,.int .i64 x.To,.int .i64 x.Reason]
def decClosure (r:List I):Option Closure:=(tI .i64 r).bind fun p0=>(tI .i64 p0.2).bind fun p1=>(tI .i64 p1.2).bind fun p2=>tE p2.2 ⟨p0.1,p1.1,p2.1⟩
def encShare (x:Share):List I:=[.int .i64 x.From,.int .i64 x.Part]
def decShare (r:List I):Option Share:=(tI .i64 r).bind fun p0=>(tI .i64 p0.2).bind fun p1=>tE p1.2 ⟨p0.1,p1.1⟩
def encPlate (x:Plate):List I:=[.int .i64 x.Strength.Lo,.int .i64 x.Strength.Hi,.sl .Share x.Shares,.sl .Share x.Creep,.int .i64 x.Near,.int .i64 x.Edge,.int .i64 x.Gravity,.int .i64 x.Low,.int .i64 x.High,.int .i64 x.Shore,.int .i64 x.Wider]
def decPlate (r:List I):Option Plate:=(tI .i64 r).bind fun p0=>(tI .i64 p0.2).bind fun p1=>(tL .Share p1.2).bind fun p2=>(tL .Share p2.2).bind fun p3=>(tI .i64 p3.2).bind fun p4=>(tI .i64 p4.2).bind fun p5=>(tI .i64 p5.2).bind fun p6=>(tI .i64 p6.2).bind fun p7=>(tI .i64 p7.2).bind fun p8=>(tI .i64 p8.2).bind fun p9=>(tI .i64 p9.2).bind fun p10=>tE p10.2 ⟨⟨p0.1,p1.1⟩,p2.1,p3.1,p4.1,p5.1,p6.1,p7.1,p8.1,p9.1,p10.1⟩
def encAccount (x:Account):List I:=[.str x.Name,.int .i64 x.Kind,.int .i64 x.Open.Lo,.int .i64 x.Open.Hi,.int .i64 x.Close.Lo,.int .i64 x.Close.Hi]
def decAccount (r:List I):Option Account:=(tS r).bind fun p0=>(tI .i64 p0.2).bind fun p1=>(tI .i64 p1.2).bind fun p2=>(tI .i64 p2.2).bind fun p3=>(tI .i64 p3.2).bind fun p4=>(tI .i64 p4.2).bind fun p5=>tE p5.2 ⟨p0.1,p1.1,⟨p2.1,p3.1⟩,⟨p4.1,p5.1⟩⟩
def encMov (x:Mov):List I:=[.int .i64 x.From,.int .i64 x.To,.int .i64 x.Litres.Lo,.int .i64 x.Litres.Hi]
def decMov (r:List I):Option Mov:=(tI .i64 r).bind fun p0=>(tI .i64 p0.2).bind fun p1=>(tI .i64 p1.2).bind fun p2=>(tI .i64 p2.2).bind fun p3=>tE p3.2 ⟨p0.1,p1.1,⟨p2.1,p3.1⟩⟩
def encBook (x:Book):List I:=[.sl .Account x.Accounts,.sl .Mov x.Moves]
def decBook (r:List I):Option Book:=(tL .Account r).bind fun p0=>(tL .Mov p0.2).bind fun p1=>tE p1.2 ⟨p0.1,p1.1⟩
def encPath (x:Path):List I:=[.int .i64 x.A,.int .i64 x.B,.int .i64 x.Time.Lo,.int .i64 x.Time.Hi,.int .i64 x.Open]
def decPath (r:List I):Option Path:=(tI .i64 r).bind fun p0=>(tI .i64 p0.2).bind fun p1=>(tI .i64 p1.2).bind fun p2=>(tI .i64 p2.2).bind fun p3=>(tI .i64 p3.2).bind fun p4=>tE p4.2 ⟨p0.1,p1.1,⟨p2.1,p3.1⟩,p4.1⟩
def encPost (x:Post):List I:=[.int .i64 x.Spot,.int .i64 x.Ready.Lo,.int .i64 x.Ready.Hi,.int .i64 x.From,.int .i64 x.To,.int .i64 x.Flies,.sl .Span x.Air]
def decPost (r:List I):Option Post:=(tI .i64 r).bind fun p0=>(tI .i64 p0.2).bind fun p1=>(tI .i64 p1.2).bind fun p2=>(tI .i64 p2.2).bind fun p3=>(tI .i64 p3.2).bind fun p4=>(tI .i64 p4.2).bind fun p5=>(tL .Span p5.2).bind fun p6=>tE p6.2 ⟨p0.1,⟨p1.1,p2.1⟩,p3.1,p4.1,p5.1,p6.1⟩
def encChill (x:Chill):List I:=[.int .i64 x.Warm,.int .i64 x.Minutes.Lo,.int .i64 x.Minutes.Hi]
def decChill (r:List I):Option Chill:=(tI .i64 r).bind fun p0=>(tI .i64 p0.2).bind fun p1=>(tI .i64 p1.2).bind fun p2=>tE p2.2 ⟨p0.1,⟨p1.1,p2.1⟩⟩
def encRescue (x:Rescue):List I:=[.int .i64 x.Spots,.sl .Path x.Paths,.sl .Post x.Posts,.sl .Span x.Water,.sl .Chill x.Chills]
def decRescue (r:List I):Option Rescue:=(tI .i64 r).bind fun p0=>(tL .Path p0.2).bind fun p1=>(tL .Post p1.2).bind fun p2=>(tL .Span p2.2).bind fun p3=>(tL .Chill p3.2).bind fun p4=>tE p4.2 ⟨p0.1,p1.1,p2.1,p3.1,p4.1⟩
def encRules (x:Rules):List I:=[.int .i64 x.Drive,.int .i64 x.Rest,.int .i64 x.Day,.int .i64 x.Most]
def decRules (r:List I):Option Rules:=(tI .i64 r).bind fun p0=>(tI .i64 p0.2).bind fun p1=>(tI .i64 p1.2).bind fun p2=>(tI .i64 p2.2).bind fun p3=>tE p3.2 ⟨p0.1,p1.1,p2.1,p3.1⟩
def encTurn (x:Turn):List I:=[.int .i64 x.From.Lo,.int .i64 x.From.Hi,.int .i64 x.To.Lo,.int .i64 x.To.Hi]
def decTurn (r:List I):Option Turn:=(tI .i64 r).bind fun p0=>(tI .i64 p0.2).bind fun p1=>(tI .i64 p1.2).bind fun p2=>(tI .i64 p2.2).bind fun p3=>tE p3.2 ⟨⟨p0.1,p1.1⟩,⟨p2.1,p3.1⟩⟩
def nsI (t:T) (l:List (den t)):I:=match l with
 |[]=>.nil
 |a::m=>.sl t (a::m)
def tNs (t:T):List I→Option (List (den t)×List I)
 |.sl t' l::r=>match asL t t' l with
  |some (a::m)=>some (a::m,r)
  |_=>none
 |.nil::r=>some ([],r)
 |_=>none
def encDriver (x:Driver):List I:=[.str x.Name,.int .i64 x.Skills,nsI .Turn x.Turns]
def decDriver (r:List I):Option Driver:=(tS r).bind fun p0=>(tI .i64 p0.2).bind fun p1=>(tNs .Turn p1.2).bind fun p2=>tE p2.2 ⟨p0.1,p1.1,p2.1⟩
def encScale (x:Scale):List I:=[.int .i64 x.Zero,.int .i64 x.Part]
def decScale (r:List I):Option Scale:=(tI .i64 r).bind fun p0=>(tI .i64 p0.2).bind fun p1=>tE p1.2 ⟨p0.1,p1.1⟩
def encAllow (x:Allow):List I:=[.int .i64 x.Axle,.int .i64 x.Total]
def decAllow (r:List I):Option Allow:=(tI .i64 r).bind fun p0=>(tI .i64 p0.2).bind fun p1=>tE p1.2 ⟨p0.1,p1.1⟩
def encRegion (x:Region):List I:=[.sl .Rech x.Survey.Reaches,.int .i64 x.Survey.Sight.a,.int .i64 x.Survey.Sight.b,.int .i64 x.Survey.Sight.c,.int .i64 x.Plate.Strength.Lo,.int .i64 x.Plate.Strength.Hi,.sl .Share x.Plate.Shares,.sl .Share x.Plate.Creep,.int .i64 x.Plate.Near,.int .i64 x.Plate.Edge,.int .i64 x.Plate.Gravity,.int .i64 x.Plate.Low,.int .i64 x.Plate.High,.int .i64 x.Plate.Shore,.int .i64 x.Plate.Wider,.int .i64 x.Gap,.int .i64 x.Fails,.int .i64 x.Pace.Lo,.int .i64 x.Pace.Hi,.sl .Account x.Book.Accounts,nsI .Mov x.Book.Moves,.int .i64 x.Rescue.Spots,nsI .Path x.Rescue.Paths,.sl .Post x.Rescue.Posts,.sl .Span x.Rescue.Water,.sl .Chill x.Rescue.Chills,.int .i64 x.Rules.Drive,.int .i64 x.Rules.Rest,.int .i64 x.Rules.Day,.int .i64 x.Rules.Most,.sl .Driver x.Drivers,.int .i64 x.Scale.Zero,.int .i64 x.Scale.Part,.int .i64 x.Allow.Axle,.int .i64 x.Allow.Total]
def decRegion (r:List I):Option Region:=(tL .Rech r).bind fun p0=>(tI .i64 p0.2).bind fun p1=>(tI .i64 p1.2).bind fun p2=>(tI .i64 p2.2).bind fun p3=>(tI .i64 p3.2).bind fun p4=>(tI .i64 p4.2).bind fun p5=>(tL .Share p5.2).bind fun p6=>(tL .Share p6.2).bind fun p7=>(tI .i64 p7.2).bind fun p8=>(tI .i64 p8.2).bind fun p9=>(tI .i64 p9.2).bind fun p10=>(tI .i64 p10.2).bind fun p11=>(tI .i64 p11.2).bind fun p12=>(tI .i64 p12.2).bind fun p13=>(tI .i64 p13.2).bind fun p14=>(tI .i64 p14.2).bind fun p15=>(tI .i64 p15.2).bind fun p16=>(tI .i64 p16.2).bind fun p17=>(tI .i64 p17.2).bind fun p18=>(tL .Account p18.2).bind fun p19=>(tNs .Mov p19.2).bind fun p20=>(tI .i64 p20.2).bind fun p21=>(tNs .Path p21.2).bind fun p22=>(tL .Post p22.2).bind fun p23=>(tL .Span p23.2).bind fun p24=>(tL .Chill p24.2).bind fun p25=>(tI .i64 p25.2).bind fun p26=>(tI .i64 p26.2).bind fun p27=>(tI .i64 p27.2).bind fun p28=>(tI .i64 p28.2).bind fun p29=>(tL .Driver p29.2).bind fun p30=>(tI .i64 p30.2).bind fun p31=>(tI .i64 p31.2).bind fun p32=>(tI .i64 p32.2).bind fun p33=>(tI .i64 p33.2).bind fun p34=>tE p34.2 ⟨⟨p0.1,⟨p1.1,p2.1,p3.1⟩⟩,⟨⟨p4.1,p5.1⟩,p6.1,p7.1,p8.1,p9.1,p10.1,p11.1,p12.1,p13.1,p14.1⟩,p15.1,p16.1,⟨p17.1,p18.1⟩,⟨p19.1,p20.1⟩,⟨p21.1,p22.1,p23.1,p24.1,p25.1⟩,⟨p26.1,p27.1,p28.1,p29.1⟩,p30.1,⟨p31.1,p32.1⟩,⟨p33.1,p34.1⟩⟩
def encHold (x:Hold):List I:=[.int .i64 x.At,.int .i64 x.Until]
def decHold (r:List I):Option Hold:=(tI .i64 r).bind fun p0=>(tI .i64 p0.2).bind fun p1=>tE p1.2 ⟨p0.1,p1.1⟩
def encTruck (x:Truck):List I:=[.int .i64 x.Way,.int .i64 x.Start,.int .i64 x.Pace.Lo,.int .i64 x.Pace.Hi,.sl .Hold x.Holds]
def decTruck (r:List I):Option Truck:=(tI .i64 r).bind fun p0=>(tI .i64 p0.2).bind fun p1=>(tI .i64 p1.2).bind fun p2=>(tI .i64 p2.2).bind fun p3=>(tL .Hold p3.2).bind fun p4=>tE p4.2 ⟨p0.1,p1.1,⟨p2.1,p3.1⟩,p4.1⟩
def encConvoy (x:Convoy):List I:=[.int .i64 x.Length,.int .i64 x.Gap,.int .i64 x.Fails,.sl .Truck x.Trucks]
def decConvoy (r:List I):Option Convoy:=(tI .i64 r).bind fun p0=>(tI .i64 p0.2).bind fun p1=>(tI .i64 p1.2).bind fun p2=>(tL .Truck p2.2).bind fun p3=>tE p3.2 ⟨p0.1,p1.1,p2.1,p3.1⟩
def encRolling (x:Rolling):List I:=[.int .i64 x.Driver,.int .i64 x.Weight,.int .i64 x.Truck.Way,.int .i64 x.Truck.Start,.int .i64 x.Truck.Pace.Lo,.int .i64 x.Truck.Pace.Hi,.sl .Hold x.Truck.Holds]
def decRolling (r:List I):Option Rolling:=(tI .i64 r).bind fun p0=>(tI .i64 p0.2).bind fun p1=>(tI .i64 p1.2).bind fun p2=>(tI .i64 p2.2).bind fun p3=>(tI .i64 p3.2).bind fun p4=>(tI .i64 p4.2).bind fun p5=>(tL .Hold p5.2).bind fun p6=>tE p6.2 ⟨p0.1,p1.1,⟨p2.1,p3.1,⟨p4.1,p5.1⟩,p6.1⟩⟩
def encDesk (x:Desk):List I:=[.int .i64 x.Minute,.sl .Look x.Looks,.sl .Mrk x.Marks,.sl .Rolling x.Trucks,.sl .Driver x.Drivers,.sl .Account x.Book.Accounts,.sl .Mov x.Book.Moves]
def decDesk (r:List I):Option Desk:=(tI .i64 r).bind fun p0=>(tL .Look p0.2).bind fun p1=>(tL .Mrk p1.2).bind fun p2=>(tL .Rolling p2.2).bind fun p3=>(tL .Driver p3.2).bind fun p4=>(tL .Account p4.2).bind fun p5=>(tL .Mov p5.2).bind fun p6=>tE p6.2 ⟨p0.1,p1.1,p2.1,p3.1,p4.1,⟨p5.1,p6.1⟩⟩
def encDisp (x:Disp):List I:=[.int .i64 x.Desk.Minute,.sl .Look x.Desk.Looks,.sl .Mrk x.Desk.Marks,.sl .Rolling x.Desk.Trucks,.sl .Driver x.Desk.Drivers,.sl .Account x.Desk.Book.Accounts,.sl .Mov x.Desk.Book.Moves,.sl .Rech x.r.Survey.Reaches,.int .i64 x.r.Survey.Sight.a,.int .i64 x.r.Survey.Sight.b,.int .i64 x.r.Survey.Sight.c,.int .i64 x.r.Plate.Strength.Lo,.int .i64 x.r.Plate.Strength.Hi,.sl .Share x.r.Plate.Shares,.sl .Share x.r.Plate.Creep,.int .i64 x.r.Plate.Near,.int .i64 x.r.Plate.Edge,.int .i64 x.r.Plate.Gravity,.int .i64 x.r.Plate.Low,.int .i64 x.r.Plate.High,.int .i64 x.r.Plate.Shore,.int .i64 x.r.Plate.Wider,.int .i64 x.r.Gap,.int .i64 x.r.Fails,.int .i64 x.r.Pace.Lo,.int .i64 x.r.Pace.Hi,.sl .Account x.r.Book.Accounts,.sl .Mov x.r.Book.Moves,.int .i64 x.r.Rescue.Spots,.sl .Path x.r.Rescue.Paths,.sl .Post x.r.Rescue.Posts,.sl .Span x.r.Rescue.Water,.sl .Chill x.r.Rescue.Chills,.int .i64 x.r.Rules.Drive,.int .i64 x.r.Rules.Rest,.int .i64 x.r.Rules.Day,.int .i64 x.r.Rules.Most,.sl .Driver x.r.Drivers,.int .i64 x.r.Scale.Zero,.int .i64 x.r.Scale.Part,.int .i64 x.r.Allow.Axle,.int .i64 x.r.Allow.Total]
def decDisp (r:List I):Option Disp:=(tI .i64 r).bind fun p0=>(tL .Look p0.2).bind fun p1=>(tL .Mrk p1.2).bind fun p2=>(tL .Rolling p2.2).bind fun p3=>(tL .Driver p3.2).bind fun p4=>(tL .Account p4.2).bind fun p5=>(tL .Mov p5.2).bind fun p6=>(tL .Rech p6.2).bind fun p7=>(tI .i64 p7.2).bind fun p8=>(tI .i64 p8.2).bind fun p9=>(tI .i64 p9.2).bind fun p10=>(tI .i64 p10.2).bind fun p11=>(tI .i64 p11.2).bind fun p12=>(tL .Share p12.2).bind fun p13=>(tL .Share p13.2).bind fun p14=>(tI .i64 p14.2).bind fun p15=>(tI .i64 p15.2).bind fun p16=>(tI .i64 p16.2).bind fun p17=>(tI .i64 p17.2).bind fun p18=>(tI .i64 p18.2).bind fun p19=>(tI .i64 p19.2).bind fun p20=>(tI .i64 p20.2).bind fun p21=>(tI .i64 p21.2).bind fun p22=>(tI .i64 p22.2).bind fun p23=>(tI .i64 p23.2).bind fun p24=>(tI .i64 p24.2).bind fun p25=>(tL .Account p25.2).bind fun p26=>(tL .Mov p26.2).bind fun p27=>(tI .i64 p27.2).bind fun p28=>(tL .Path p28.2).bind fun p29=>(tL .Post p29.2).bind fun p30=>(tL .Span p30.2).bind fun p31=>(tL .Chill p31.2).bind fun p32=>(tI .i64 p32.2).bind fun p33=>(tI .i64 p33.2).bind fun p34=>(tI .i64 p34.2).bind fun p35=>(tI .i64 p35.2).bind fun p36=>(tL .Driver p36.2).bind fun p37=>(tI .i64 p37.2).bind fun p38=>(tI .i64 p38.2).bind fun p39=>(tI .i64 p39.2).bind fun p40=>(tI .i64 p40.2).bind fun p41=>tE p41.2 ⟨⟨p0.1,p1.1,p2.1,p3.1,p4.1,⟨p5.1,p6.1⟩⟩,⟨⟨p7.1,⟨p8.1,p9.1,p10.1⟩⟩,⟨⟨p11.1,p12.1⟩,p13.1,p14.1,p15.1,p16.1,p17.1,p18.1,p19.1,p20.1,p21.1⟩,p22.1,p23.1,⟨p24.1,p25.1⟩,⟨p26.1,p27.1⟩,⟨p28.1,p29.1,p30.1,p31.1,p32.1⟩,⟨p33.1,p34.1,p35.1,p36.1⟩,p37.1,⟨p38.1,p39.1⟩,⟨p40.1,p41.1⟩⟩⟩
def encOrd1 (x:Ord1):List I:=[.str x.verb,.str x.way,.str x.name,.sl (.int .i64) x.n]
def decOrd1 (r:List I):Option Ord1:=(tS r).bind fun p0=>(tS p0.2).bind fun p1=>(tS p1.2).bind fun p2=>(tL (.int .i64) p2.2).bind fun p3=>tE p3.2 ⟨p0.1,p1.1,p2.1,p3.1⟩
def encGrnd (x:Grnd):List I:=[.sl .Rech x.s.Reaches,.int .i64 x.s.Sight.a,.int .i64 x.s.Sight.b,.int .i64 x.s.Sight.c,.sl (.int .i64) x.slopes,.sl .Rech x.reach]
def decGrnd (r:List I):Option Grnd:=(tL .Rech r).bind fun p0=>(tI .i64 p0.2).bind fun p1=>(tI .i64 p1.2).bind fun p2=>(tI .i64 p2.2).bind fun p3=>(tL (.int .i64) p3.2).bind fun p4=>(tL .Rech p4.2).bind fun p5=>tE p5.2 ⟨⟨p0.1,⟨p1.1,p2.1,p3.1⟩⟩,p4.1,p5.1⟩
def encShift (x:Shift):List I:=[.str x.Driver.Name,.int .i64 x.Driver.Skills,.sl .Turn x.Driver.Turns,.int .i64 x.rules.Drive,.int .i64 x.rules.Rest,.int .i64 x.rules.Day,.int .i64 x.rules.Most]
def decShift (r:List I):Option Shift:=(tS r).bind fun p0=>(tI .i64 p0.2).bind fun p1=>(tL .Turn p1.2).bind fun p2=>(tI .i64 p2.2).bind fun p3=>(tI .i64 p3.2).bind fun p4=>(tI .i64 p4.2).bind fun p5=>(tI .i64 p5.2).bind fun p6=>tE p6.2 ⟨⟨p0.1,p1.1,p2.1⟩,⟨p3.1,p4.1,p5.1,p6.1⟩⟩
def encMeeting (x:Meeting):List I:=[.int .i64 x.Minute,.int .i64 x.First,.int .i64 x.Second,.bool x.FirstFails,.bool x.SecondFails,.int .i64 x.At,.int .i64 x.Other]
def decMeeting (r:List I):Option Meeting:=(tI .i64 r).bind fun p0=>(tI .i64 p0.2).bind fun p1=>(tI .i64 p1.2).bind fun p2=>(tB p2.2).bind fun p3=>(tB p3.2).bind fun p4=>(tI .i64 p4.2).bind fun p5=>(tI .i64 p5.2).bind fun p6=>tE p6.2 ⟨p0.1,p1.1,p2.1,p3.1,p4.1,p5.1,p6.1⟩
def encNearness (x:Nearness):List I:=[.int .i64 x.gap,.int .i64 x.fails]
def decNearness (r:List I):Option Nearness:=(tI .i64 r).bind fun p0=>(tI .i64 p0.2).bind fun p1=>tE p1.2 ⟨p0.1,p1.1⟩
def encRide (x:Ride):List I:=[.int .i64 x.Truck.Way,.int .i64 x.Truck.Start,.int .i64 x.Truck.Pace.Lo,.int .i64 x.Truck.Pace.Hi,.sl .Hold x.Truck.Holds,.int .i64 x.length]
def decRide (r:List I):Option Ride:=(tI .i64 r).bind fun p0=>(tI .i64 p0.2).bind fun p1=>(tI .i64 p1.2).bind fun p2=>(tI .i64 p2.2).bind fun p3=>(tL .Hold p3.2).bind fun p4=>(tI .i64 p4.2).bind fun p5=>tE p5.2 ⟨⟨p0.1,p1.1,⟨p2.1,p3.1⟩,p4.1⟩,p5.1⟩
def encTrack (x:Track):List I:=[.int .i64 x.ride.Truck.Way,.int .i64 x.ride.Truck.Start,.int .i64 x.ride.Truck.Pace.Lo,.int .i64 x.ride.Truck.Pace.Hi,.sl .Hold x.ride.Truck.Holds,.int .i64 x.ride.length,.sl .Span x.gone]
def decTrack (r:List I):Option Track:=(tI .i64 r).bind fun p0=>(tI .i64 p0.2).bind fun p1=>(tI .i64 p1.2).bind fun p2=>(tI .i64 p2.2).bind fun p3=>(tL .Hold p3.2).bind fun p4=>(tI .i64 p4.2).bind fun p5=>(tL .Span p5.2).bind fun p6=>tE p6.2 ⟨⟨⟨p0.1,p1.1,⟨p2.1,p3.1⟩,p4.1⟩,p5.1⟩,p6.1⟩
def encLanes (x:Lanes):List I:=[.int .i64 x.a.ride.Truck.Way,.int .i64 x.a.ride.Truck.Start,.int .i64 x.a.ride.Truck.Pace.Lo,.int .i64 x.a.ride.Truck.Pace.Hi,.sl .Hold x.a.ride.Truck.Holds,.int .i64 x.a.ride.length,.sl .Span x.a.gone,.int .i64 x.b.ride.Truck.Way,.int .i64 x.b.ride.Truck.Start,.int .i64 x.b.ride.Truck.Pace.Lo,.int .i64 x.b.ride.Truck.Pace.Hi,.sl .Hold x.b.ride.Truck.Holds,.int .i64 x.b.ride.length,.sl .Span x.b.gone]
def decLanes (r:List I):Option Lanes:=(tI .i64 r).bind fun p0=>(tI .i64 p0.2).bind fun p1=>(tI .i64 p1.2).bind fun p2=>(tI .i64 p2.2).bind fun p3=>(tL .Hold p3.2).bind fun p4=>(tI .i64 p4.2).bind fun p5=>(tL .Span p5.2).bind fun p6=>(tI .i64 p6.2).bind fun p7=>(tI .i64 p7.2).bind fun p8=>(tI .i64 p8.2).bind fun p9=>(tI .i64 p9.2).bind fun p10=>(tL .Hold p10.2).bind fun p11=>(tI .i64 p11.2).bind fun p12=>(tL .Span p12.2).bind fun p13=>tE p13.2 ⟨⟨⟨⟨p0.1,p1.1,⟨p2.1,p3.1⟩,p4.1⟩,p5.1⟩,p6.1⟩,⟨⟨⟨p7.1,p8.1,⟨p9.1,p10.1⟩,p11.1⟩,p12.1⟩,p13.1⟩⟩
def encSide (x:Side):List I:=[.bool x.worst]
def decSide (r:List I):Option Side:=(tB r).bind fun p0=>tE p0.2 ⟨p0.1⟩
def encScene (x:Scene):List I:=[.bool x.side.worst,.int .i64 x.Plate.Strength.Lo,.int .i64 x.Plate.Strength.Hi,.sl .Share x.Plate.Shares,.sl .Share x.Plate.Creep,.int .i64 x.Plate.Near,.int .i64 x.Plate.Edge,.int .i64 x.Plate.Gravity,.int .i64 x.Plate.Low,.int .i64 x.Plate.High,.int .i64 x.Plate.Shore,.int .i64 x.Plate.Wider,.sl .Span x.ice,.sl .Span x.cracks]
def decScene (r:List I):Option Scene:=(tB r).bind fun p0=>(tI .i64 p0.2).bind fun p1=>(tI .i64 p1.2).bind fun p2=>(tL .Share p2.2).bind fun p3=>(tL .Share p3.2).bind fun p4=>(tI .i64 p4.2).bind fun p5=>(tI .i64 p5.2).bind fun p6=>(tI .i64 p6.2).bind fun p7=>(tI .i64 p7.2).bind fun p8=>(tI .i64 p8.2).bind fun p9=>(tI .i64 p9.2).bind fun p10=>(tI .i64 p10.2).bind fun p11=>(tL .Span p11.2).bind fun p12=>(tL .Span p12.2).bind fun p13=>tE p13.2 ⟨⟨p0.1⟩,⟨⟨p1.1,p2.1⟩,p3.1,p4.1,p5.1,p6.1,p7.1,p8.1,p9.1,p10.1,p11.1⟩,p12.1,p13.1⟩
def encWatch (x:Watch):List I:=[.int .i64 x.Rescue.Spots,.sl .Path x.Rescue.Paths,.sl .Post x.Rescue.Posts,.sl .Span x.Rescue.Water,.sl .Chill x.Rescue.Chills,.sl (.sl .Span) x.times,.sl .Span x.lives]
def decWatch (r:List I):Option Watch:=(tI .i64 r).bind fun p0=>(tL .Path p0.2).bind fun p1=>(tL .Post p1.2).bind fun p2=>(tL .Span p2.2).bind fun p3=>(tL .Chill p3.2).bind fun p4=>(tL (.sl .Span) p4.2).bind fun p5=>(tL .Span p5.2).bind fun p6=>tE p6.2 ⟨⟨p0.1,p1.1,p2.1,p3.1,p4.1⟩,p5.1,p6.1⟩
def encTwo (x:Two):List I:=[.int .i64 x.a.Lo,.int .i64 x.a.Hi,.int .i64 x.b.Lo,.int .i64 x.b.Hi]
def decTwo (r:List I):Option Two:=(tI .i64 r).bind fun p0=>(tI .i64 p0.2).bind fun p1=>(tI .i64 p1.2).bind fun p2=>(tI .i64 p2.2).bind fun p3=>tE p3.2 ⟨⟨p0.1,p1.1⟩,⟨p2.1,p3.1⟩⟩
def encPair (x:Pair):List I:=[.int .i64 x.a,.int .i64 x.b]
def decPair (r:List I):Option Pair:=(tI .i64 r).bind fun p0=>(tI .i64 p0.2).bind fun p1=>tE p1.2 ⟨p0.1,p1.1⟩
def encQuad (x:Quad):List I:=[.int .i64 x.a.a,.int .i64 x.a.b,.int .i64 x.b.a,.int .i64 x.b.b]
def decQuad (r:List I):Option Quad:=(tI .i64 r).bind fun p0=>(tI .i64 p0.2).bind fun p1=>(tI .i64 p1.2).bind fun p2=>(tI .i64 p2.2).bind fun p3=>tE p3.2 ⟨⟨p0.1,p1.1⟩,⟨p2.1,p3.1⟩⟩
def encFour (x:Four):List I:=[.int .i64 x.a,.int .i64 x.b,.int .i64 x.c,.int .i64 x.d]
def decFour (r:List I):Option Four:=(tI .i64 r).bind fun p0=>(tI .i64 p0.2).bind fun p1=>(tI .i64 p1.2).bind fun p2=>(tI .i64 p2.2).bind fun p3=>tE p3.2 ⟨p0.1,p1.1,p2.1,p3.1⟩
def encSeed (x:Seed):List I:=[.int .u64 x.word]
def decSeed (r:List I):Option Seed:=(tI .u64 r).bind fun p0=>tE p0.2 ⟨p0.1⟩
def encC:(t:T)→den t→List I
 |.int k,x=>[.int k x]
 |.bool,x=>[.bool x]
 |.str,x=>[.str x]
 |.sl t,x=>[.sl t x]
 |.ptr t,x=>[.rp (encC t x) 0]
 |.clo f t,x=>[.fn f [.rp (encC t x) 0]]
 |.clov t,x=>[.fn x.1 [.rp (encC t x.2) 0]]
 |.clo0 f,_=>[.fn f []]
 |.err,x=>[.er x]
 |.clo2 f t u,x=>[.fn f [.rp (encC t x.1) 0,.rp (encC u x.2) 0]]
 |.clo3 f t u v,x=>[.fn f [.rp (encC t x.1) 0,.rp (encC u x.2.1) 0,.rp (encC v x.2.2) 0]]
 |.mfn f t,x=>[.mf f [.agg (encC t x)]]
 |.Span,x=>encSpan x
 |.Three,x=>encThree x
 |.Rech,x=>encRech x
 |.Survey,x=>encSurvey x
 |.Look,x=>encLook x
 |.Mrk,x=>encMrk x
 |.Closure,x=>encClosure x
 |.Share,x=>encShare x
 |.Plate,x=>encPlate x
 |.Account,x=>encAccount x
 |.Mov,x=>encMov x
 |.Book,x=>encBook x
 |.Path,x=>encPath x
 |.Post,x=>encPost x
 |.Chill,x=>encChill x
 |.Rescue,x=>encRescue x
 |.Rules,x=>encRules x
 |.Turn,x=>encTurn x
 |.Driver,x=>encDriver x
 |.Scale,x=>encScale x
 |.Allow,x=>encAllow x
 |.Region,x=>encRegion x
 |.Hold,x=>encHold x
 |.Truck,x=>encTruck x
 |.Convoy,x=>encConvoy x
 |.Rolling,x=>encRolling x
 |.Desk,x=>encDesk x
 |.Disp,x=>encDisp x
 |.Ord1,x=>encOrd1 x
 |.Grnd,x=>encGrnd x
 |.Shift,x=>encShift x
 |.Meeting,x=>encMeeting x
 |.Nearness,x=>encNearness x
 |.Ride,x=>encRide x
 |.Track,x=>encTrack x
 |.Lanes,x=>encLanes x
 |.Side,x=>encSide x
 |.Scene,x=>encScene x
 |.Watch,x=>encWatch x
 |.Two,x=>encTwo x
 |.Pair,x=>encPair x
 |.Quad,x=>encQuad x
 |.Four,x=>encFour x
 |.Seed,x=>encSeed x
def decC:(t:T)→List I→Option (den t)
 |.int k,r=>(tI k r).bind fun p=>tE p.2 p.1
 |.bool,r=>(tB r).bind fun p=>tE p.2 p.1
 |.str,r=>(tS r).bind fun p=>tE p.2 p.1
 |.sl t,r=>(tL t r).bind fun p=>tE p.2 p.1
 |.ptr t,r=>tP (decC t) r
 |.clo f t,r=>tC f (decC t) r
 |.clov t,r=>tCv (decC t) (encC t) r
 |.clo0 f,r=>tC0 f r
 |.err,r=>tEr r
 |.clo2 f t u,r=>tC2 f (decC t) (decC u) r
 |.clo3 f t u v,r=>tC3 f (decC t) (decC u) (decC v) r
 |.mfn f t,r=>tM f (decC t) r
 |.Span,r=>decSpan r
 |.Three,r=>decThree r
 |.Rech,r=>decRech r
 |.Survey,r=>decSurvey r
 |.Look,r=>decLook r
 |.Mrk,r=>decMrk r
 |.Closure,r=>decClosure r
 |.Share,r=>decShare r
 |.Plate,r=>decPlate r
 |.Account,r=>decAccount r
 |.Mov,r=>decMov r
 |.Book,r=>decBook r
 |.Path,r=>decPath r
 |.Post,r=>decPost r
 |.Chill,r=>decChill r
 |.Rescue,r=>decRescue r
 |.Rules,r=>decRules r
 |.Turn,r=>decTurn r
 |.Driver,r=>decDriver r
 |.Scale,r=>decScale r
 |.Allow,r=>decAllow r
 |.Region,r=>decRegion r
 |.Hold,r=>decHold r
 |.Truck,r=>decTruck r
 |.Convoy,r=>decConvoy r
 |.Rolling,r=>decRolling r
 |.Desk,r=>decDesk r
 |.Disp,r=>decDisp r
 |.Ord1,r=>decOrd1 r
 |.Grnd,r=>decGrnd r
 |.Shift,r=>decShift r
 |.Meeting,r=>decMeeting r
 |.Nearness,r=>decNearness r
 |.Ride,r=>decRide r
 |.Track,r=>decTrack r
 |.Lanes,r=>decLanes r
 |.Side,r=>decSide r
 |.Scene,r=>decScene r
 |.Watch,r=>decWatch r
 |.Two,r=>decTwo r
 |.Pair,r=>decPair r
 |.Quad,r=>decQuad r
 |.Four,r=>decFour r
 |.Seed,r=>decSeed r
def encDSpan (x:Span):List D:=[.int .i64 x.Lo,.int .i64 x.Hi]
def encDThree (x:Three):List D:=[.int .i64 x.a,.int .i64 x.b,.int .i64 x.c]
def encDRech (x:Rech):List D:=[.int .i64 x.Long,.int .i64 x.Slope,.int .i64 x.Thin,.int .i64 x.Grow,.int .i64 x.Every]
def encDSurvey (x:Survey):List D:=[.sl 5 x.Reaches.length (fun i=>encDRech (x.Reaches.getD i dfltRech)),.int .i64 x.Sight.a,.int .i64 x.Sight.b,.int .i64 x.Sight.c]
def encDLook (x:Look):List D:=[.int .i64 x.Kind,.int .i64 x.At,.int .i64 x.Hour,.int .i64 x.Value.Lo,.int .i64 x.Value.Hi]
def encDMrk (x:Mrk):List D:=[.int .i64 x.Kind,.int .i64 x.From,.int .i64 x.To,.int .i64 x.Hour,.int .i64 x.Speed]
def encDClosure (x:Closure):List D:=[.int .i64 x.From,.int .i64 x.To,.int .i64 x.Reason]
def encDShare (x:Share):List D:=[.int .i64 x.From,.int .i64 x.Part]
def encDPlate (x:Plate):List D:=[.int .i64 x.Strength.Lo,.int .i64 x.Strength.Hi,.sl 2 x.Shares.length (fun i=>encDShare (x.Shares.getD i dfltShare)),.sl 2 x.Creep.length (fun i=>encDShare (x.Creep.getD i dfltShare)),.int .i64 x.Near,.int .i64 x.Edge,.int .i64 x.Gravity,.int .i64 x.Low,.int .i64 x.High,.int .i64 x.Shore,.int .i64 x.Wider]
def encDAccount (x:Account):List D:=[.str x.Name,.int .i64 x.Kind,.int .i64 x.Open.Lo,.int .i64 x.Open.Hi,.int .i64 x.Close.Lo,.int .i64 x.Close.Hi]
def encDMov (x:Mov):List D:=[.int .i64 x.From,.int .i64 x.To,.int .i64 x.Litres.Lo,.int .i64 x.Litres.Hi]
def encDBook (x:Book):List D:=[.sl 6 x.Accounts.length (fun i=>encDAccount (x.Accounts.getD i dfltAccount)),.sl 4 x.Moves.length (fun i=>encDMov (x.Moves.getD i dfltMov))]
def encDPath (x:Path):List D:=[.int .i64 x.A,.int .i64 x.B,.int .i64 x.Time.Lo,.int .i64 x.Time.Hi,.int .i64 x.Open]
def encDPost (x:Post):List D:=[.int .i64 x.Spot,.int .i64 x.Ready.Lo,.int .i64 x.Ready.Hi,.int .i64 x.From,.int .i64 x.To,.int .i64 x.Flies,.sl 2 x.Air.length (fun i=>encDSpan (x.Air.getD i dfltSpan))]
def encDChill (x:Chill):List D:=[.int .i64 x.Warm,.int .i64 x.Minutes.Lo,.int .i64 x.Minutes.Hi]
def encDRescue (x:Rescue):List D:=[.int .i64 x.Spots,.sl 5 x.Paths.length (fun i=>encDPath (x.Paths.getD i dfltPath)),.sl 7 x.Posts.length (fun i=>encDPost (x.Posts.getD i dfltPost)),.sl 2 x.Water.length (fun i=>encDSpan (x.Water.getD i dfltSpan)),.sl 3 x.Chills.length (fun i=>encDChill (x.Chills.getD i dfltChill))]
def encDRules (x:Rules):List D:=[.int .i64 x.Drive,.int .i64 x.Rest,.int .i64 x.Day,.int .i64 x.Most]
def encDTurn (x:Turn):List D:=[.int .i64 x.From.Lo,.int .i64 x.From.Hi,.int .i64 x.To.Lo,.int .i64 x.To.Hi]
def nsT (l:List Turn):D:=match l with
 |[]=>.nil
 |a::m=>.sl 4 (a::m).length (fun i=>encDTurn ((a::m).getD i dfltTurn))
def encDDriver (x:Driver):List D:=[.str x.Name,.int .i64 x.Skills,nsT x.Turns]
def encDScale (x:Scale):List D:=[.int .i64 x.Zero,.int .i64 x.Part]
def encDAllow (x:Allow):List D:=[.int .i64 x.Axle,.int .i64 x.Total]
def nsM (l:List Mov):D:=match l with
 |[]=>.nil
 |a::m=>.sl 4 (a::m).length (fun i=>encDMov ((a::m).getD i dfltMov))
def nsP (l:List Path):D:=match l with
 |[]=>.nil
 |a::m=>.sl 5 (a::m).length (fun i=>encDPath ((a::m).getD i dfltPath))
def encDRegion (x:Region):List D:=[.sl 5 x.Survey.Reaches.length (fun i=>encDRech (x.Survey.Reaches.getD i dfltRech)),.int .i64 x.Survey.Sight.a,.int .i64 x.Survey.Sight.b,.int .i64 x.Survey.Sight.c,.int .i64 x.Plate.Strength.Lo,.int .i64 x.Plate.Strength.Hi,.sl 2 x.Plate.Shares.length (fun i=>encDShare (x.Plate.Shares.getD i dfltShare)),.sl 2 x.Plate.Creep.length (fun i=>encDShare (x.Plate.Creep.getD i dfltShare)),.int .i64 x.Plate.Near,.int .i64 x.Plate.Edge,.int .i64 x.Plate.Gravity,.int .i64 x.Plate.Low,.int .i64 x.Plate.High,.int .i64 x.Plate.Shore,.int .i64 x.Plate.Wider,.int .i64 x.Gap,.int .i64 x.Fails,.int .i64 x.Pace.Lo,.int .i64 x.Pace.Hi,.sl 6 x.Book.Accounts.length (fun i=>encDAccount (x.Book.Accounts.getD i dfltAccount)),nsM x.Book.Moves,.int .i64 x.Rescue.Spots,nsP x.Rescue.Paths,.sl 7 x.Rescue.Posts.length (fun i=>encDPost (x.Rescue.Posts.getD i dfltPost)),.sl 2 x.Rescue.Water.length (fun i=>encDSpan (x.Rescue.Water.getD i dfltSpan)),.sl 3 x.Rescue.Chills.length (fun i=>encDChill (x.Rescue.Chills.getD i dfltChill)),.int .i64 x.Rules.Drive,.int .i64 x.Rules.Rest,.int .i64 x.Rules.Day,.int .i64 x.Rules.Most,.sl 3 x.Drivers.length (fun i=>encDDriver (x.Drivers.getD i dfltDriver)),.int .i64 x.Scale.Zero,.int .i64 x.Scale.Part,.int .i64 x.Allow.Axle,.int .i64 x.Allow.Total]
def encDHold (x:Hold):List D:=[.int .i64 x.At,.int .i64 x.Until]
def encDTruck (x:Truck):List D:=[.int .i64 x.Way,.int .i64 x.Start,.int .i64 x.Pace.Lo,.int .i64 x.Pace.Hi,.sl 2 x.Holds.length (fun i=>encDHold (x.Holds.getD i dfltHold))]
def encDConvoy (x:Convoy):List D:=[.int .i64 x.Length,.int .i64 x.Gap,.int .i64 x.Fails,.sl 5 x.Trucks.length (fun i=>encDTruck (x.Trucks.getD i dfltTruck))]
def encDRolling (x:Rolling):List D:=[.int .i64 x.Driver,.int .i64 x.Weight,.int .i64 x.Truck.Way,.int .i64 x.Truck.Start,.int .i64 x.Truck.Pace.Lo,.int .i64 x.Truck.Pace.Hi,.sl 2 x.Truck.Holds.length (fun i=>encDHold (x.Truck.Holds.getD i dfltHold))]
def encDDesk (x:Desk):List D:=[.int .i64 x.Minute,.sl 5 x.Looks.length (fun i=>encDLook (x.Looks.getD i dfltLook)),.sl 5 x.Marks.length (fun i=>encDMrk (x.Marks.getD i dfltMrk)),.sl 7 x.Trucks.length (fun i=>encDRolling (x.Trucks.getD i dfltRolling)),.sl 3 x.Drivers.length (fun i=>encDDriver (x.Drivers.getD i dfltDriver)),.sl 6 x.Book.Accounts.length (fun i=>encDAccount (x.Book.Accounts.getD i dfltAccount)),.sl 4 x.Book.Moves.length (fun i=>encDMov (x.Book.Moves.getD i dfltMov))]
def encDDisp (x:Disp):List D:=[.int .i64 x.Desk.Minute,.sl 5 x.Desk.Looks.length (fun i=>encDLook (x.Desk.Looks.getD i dfltLook)),.sl 5 x.Desk.Marks.length (fun i=>encDMrk (x.Desk.Marks.getD i dfltMrk)),.sl 7 x.Desk.Trucks.length (fun i=>encDRolling (x.Desk.Trucks.getD i dfltRolling)),.sl 3 x.Desk.Drivers.length (fun i=>encDDriver (x.Desk.Drivers.getD i dfltDriver)),.sl 6 x.Desk.Book.Accounts.length (fun i=>encDAccount (x.Desk.Book.Accounts.getD i dfltAccount)),.sl 4 x.Desk.Book.Moves.length (fun i=>encDMov (x.Desk.Book.Moves.getD i dfltMov)),.sl 5 x.r.Survey.Reaches.length (fun i=>encDRech (x.r.Survey.Reaches.getD i dfltRech)),.int .i64 x.r.Survey.Sight.a,.int .i64 x.r.Survey.Sight.b,.int .i64 x.r.Survey.Sight.c,.int .i64 x.r.Plate.Strength.Lo,.int .i64 x.r.Plate.Strength.Hi,.sl 2 x.r.Plate.Shares.length (fun i=>encDShare (x.r.Plate.Shares.getD i dfltShare)),.sl 2 x.r.Plate.Creep.length (fun i=>encDShare (x.r.Plate.Creep.getD i dfltShare)),.int .i64 x.r.Plate.Near,.int .i64 x.r.Plate.Edge,.int .i64 x.r.Plate.Gravity,.int .i64 x.r.Plate.Low,.int .i64 x.r.Plate.High,.int .i64 x.r.Plate.Shore,.int .i64 x.r.Plate.Wider,.int .i64 x.r.Gap,.int .i64 x.r.Fails,.int .i64 x.r.Pace.Lo,.int .i64 x.r.Pace.Hi,.sl 6 x.r.Book.Accounts.length (fun i=>encDAccount (x.r.Book.Accounts.getD i dfltAccount)),.sl 4 x.r.Book.Moves.length (fun i=>encDMov (x.r.Book.Moves.getD i dfltMov)),.int .i64 x.r.Rescue.Spots,.sl 5 x.r.Rescue.Paths.length (fun i=>encDPath (x.r.Rescue.Paths.getD i dfltPath)),.sl 7 x.r.Rescue.Posts.length (fun i=>encDPost (x.r.Rescue.Posts.getD i dfltPost)),.sl 2 x.r.Rescue.Water.length (fun i=>encDSpan (x.r.Rescue.Water.getD i dfltSpan)),.sl 3 x.r.Rescue.Chills.length (fun i=>encDChill (x.r.Rescue.Chills.getD i dfltChill)),.int .i64 x.r.Rules.Drive,.int .i64 x.r.Rules.Rest,.int .i64 x.r.Rules.Day,.int .i64 x.r.Rules.Most,.sl 3 x.r.Drivers.length (fun i=>encDDriver (x.r.Drivers.getD i dfltDriver)),.int .i64 x.r.Scale.Zero,.int .i64 x.r.Scale.Part,.int .i64 x.r.Allow.Axle,.int .i64 x.r.Allow.Total]
def encDOrd1 (x:Ord1):List D:=[.str x.verb,.str x.way,.str x.name,.sl 1 x.n.length (fun i=>(fun y=>[.int .i64 y]) (x.n.getD i 0))]
def encDGrnd (x:Grnd):List D:=[.sl 5 x.s.Reaches.length (fun i=>encDRech (x.s.Reaches.getD i dfltRech)),.int .i64 x.s.Sight.a,.int .i64 x.s.Sight.b,.int .i64 x.s.Sight.c,.sl 1 x.slopes.length (fun i=>(fun y=>[.int .i64 y]) (x.slopes.getD i 0)),.sl 5 x.reach.length (fun i=>encDRech (x.reach.getD i dfltRech))]
def encDShift (x:Shift):List D:=[.str x.Driver.Name,.int .i64 x.Driver.Skills,.sl 4 x.Driver.Turns.length (fun i=>encDTurn (x.Driver.Turns.getD i dfltTurn)),.int .i64 x.rules.Drive,.int .i64 x.rules.Rest,.int .i64 x.rules.Day,.int .i64 x.rules.Most]
def encDMeeting (x:Meeting):List D:=[.int .i64 x.Minute,.int .i64 x.First,.int .i64 x.Second,.bool x.FirstFails,.bool x.SecondFails,.int .i64 x.At,.int .i64 x.Other]
def encDNearness (x:Nearness):List D:=[.int .i64 x.gap,.int .i64 x.fails]
def encDRide (x:Ride):List D:=[.int .i64 x.Truck.Way,.int .i64 x.Truck.Start,.int .i64 x.Truck.Pace.Lo,.int .i64 x.Truck.Pace.Hi,.sl 2 x.Truck.Holds.length (fun i=>encDHold (x.Truck.Holds.getD i dfltHold)),.int .i64 x.length]
def encDTrack (x:Track):List D:=[.int .i64 x.ride.Truck.Way,.int .i64 x.ride.Truck.Start,.int .i64 x.ride.Truck.Pace.Lo,.int .i64 x.ride.Truck.Pace.Hi,.sl 2 x.ride.Truck.Holds.length (fun i=>encDHold (x.ride.Truck.Holds.getD i dfltHold)),.int .i64 x.ride.length,.sl 2 x.gone.length (fun i=>encDSpan (x.gone.getD i dfltSpan))]
def encDLanes (x:Lanes):List D:=[.int .i64 x.a.ride.Truck.Way,.int .i64 x.a.ride.Truck.Start,.int .i64 x.a.ride.Truck.Pace.Lo,.int .i64 x.a.ride.Truck.Pace.Hi,.sl 2 x.a.ride.Truck.Holds.length (fun i=>encDHold (x.a.ride.Truck.Holds.getD i dfltHold)),.int .i64 x.a.ride.length,.sl 2 x.a.gone.length (fun i=>encDSpan (x.a.gone.getD i dfltSpan)),.int .i64 x.b.ride.Truck.Way,.int .i64 x.b.ride.Truck.Start,.int .i64 x.b.ride.Truck.Pace.Lo,.int .i64 x.b.ride.Truck.Pace.Hi,.sl 2 x.b.ride.Truck.Holds.length (fun i=>encDHold (x.b.ride.Truck.Holds.getD i dfltHold)),.int .i64 x.b.ride.length,.sl 2 x.b.gone.length (fun i=>encDSpan (x.b.gone.getD i dfltSpan))]
def encDSide (x:Side):List D:=[.bool x.worst]
def encDScene (x:Scene):List D:=[.bool x.side.worst,.int .i64 x.Plate.Strength.Lo,.int .i64 x.Plate.Strength.Hi,.sl 2 x.Plate.Shares.length (fun i=>encDShare (x.Plate.Shares.getD i dfltShare)),.sl 2 x.Plate.Creep.length (fun i=>encDShare (x.Plate.Creep.getD i dfltShare)),.int .i64 x.Plate.Near,.int .i64 x.Plate.Edge,.int .i64 x.Plate.Gravity,.int .i64 x.Plate.Low,.int .i64 x.Plate.High,.int .i64 x.Plate.Shore,.int .i64 x.Plate.Wider,.sl 2 x.ice.length (fun i=>encDSpan (x.ice.getD i dfltSpan)),.sl 2 x.cracks.length (fun i=>encDSpan (x.cracks.getD i dfltSpan))]
def encDWatch (x:Watch):List D:=[.int .i64 x.Rescue.Spots,.sl 5 x.Rescue.Paths.length (fun i=>encDPath (x.Rescue.Paths.getD i dfltPath)),.sl 7 x.Rescue.Posts.length (fun i=>encDPost (x.Rescue.Posts.getD i dfltPost)),.sl 2 x.Rescue.Water.length (fun i=>encDSpan (x.Rescue.Water.getD i dfltSpan)),.sl 3 x.Rescue.Chills.length (fun i=>encDChill (x.Rescue.Chills.getD i dfltChill)),.sl 1 x.times.length (fun i=>(fun y=>[.sl 2 y.length (fun i=>encDSpan (y.getD i dfltSpan))]) (x.times.getD i [])),.sl 2 x.lives.length (fun i=>encDSpan (x.lives.getD i dfltSpan))]
def encDTwo (x:Two):List D:=[.int .i64 x.a.Lo,.int .i64 x.a.Hi,.int .i64 x.b.Lo,.int .i64 x.b.Hi]
def encDPair (x:Pair):List D:=[.int .i64 x.a,.int .i64 x.b]
def encDQuad (x:Quad):List D:=[.int .i64 x.a.a,.int .i64 x.a.b,.int .i64 x.b.a,.int .i64 x.b.b]
def encDFour (x:Four):List D:=[.int .i64 x.a,.int .i64 x.b,.int .i64 x.c,.int .i64 x.d]
def encDSeed (x:Seed):List D:=[.int .u64 x.word]
def encD:(t:T)→den t→List D
 |.int k,x=>[.int k x]
 |.bool,x=>[.bool x]
 |.str,x=>[.str x]
 |.sl t,x=>[.sl (sz t) x.length (fun i=>encD t (x.getD i (dflt t)))]
 |.ptr t,x=>[.rp (encD t x) 0]
 |.clo f t,x=>[.fn f [.rp (encD t x) 0]]
 |.clov t,x=>[.fn x.1 [.rp (encD t x.2) 0]]
 |.clo0 f,_=>[.fn f []]
 |.err,x=>[.lk (ofB x)]
 |.clo2 f t u,x=>[.fn f [.rp (encD t x.1) 0,.rp (encD u x.2) 0]]
 |.clo3 f t u v,x=>[.fn f [.rp (encD t x.1) 0,.rp (encD u x.2.1) 0,.rp (encD v x.2.2) 0]]
 |.mfn f t,x=>[.mf f [.agg (encD t x)]]
 |.Span,x=>encDSpan x
 |.Three,x=>encDThree x
 |.Rech,x=>encDRech x
 |.Survey,x=>encDSurvey x
 |.Look,x=>encDLook x
 |.Mrk,x=>encDMrk x
 |.Closure,x=>encDClosure x
 |.Share,x=>encDShare x
 |.Plate,x=>encDPlate x
 |.Account,x=>encDAccount x
 |.Mov,x=>encDMov x
 |.Book,x=>encDBook x
 |.Path,x=>encDPath x
 |.Post,x=>encDPost x
 |.Chill,x=>encDChill x
 |.Rescue,x=>encDRescue x
 |.Rules,x=>encDRules x
 |.Turn,x=>encDTurn x
 |.Driver,x=>encDDriver x
 |.Scale,x=>encDScale x
 |.Allow,x=>encDAllow x
 |.Region,x=>encDRegion x
 |.Hold,x=>encDHold x
 |.Truck,x=>encDTruck x
 |.Convoy,x=>encDConvoy x
 |.Rolling,x=>encDRolling x
 |.Desk,x=>encDDesk x
 |.Disp,x=>encDDisp x
 |.Ord1,x=>encDOrd1 x
 |.Grnd,x=>encDGrnd x
 |.Shift,x=>encDShift x
 |.Meeting,x=>encDMeeting x
 |.Nearness,x=>encDNearness x
 |.Ride,x=>encDRide x
 |.Track,x=>encDTrack x
 |.Lanes,x=>encDLanes x
 |.Side,x=>encDSide x
 |.Scene,x=>encDScene x
 |.Watch,x=>encDWatch x
 |.Two,x=>encDTwo x
 |.Pair,x=>encDPair x
 |.Quad,x=>encDQuad x
 |.Four,x=>encDFour x
 |.Seed,x=>encDSeed x
def slD (t:T) (l:List (den t)):D:=.sl (sz t) l.length (fun i=>encD t (l.getD i (dflt t)))
def slN (t:T) (l:List (den t)):D:=match l with|[]=>.nil|_::_=>slD t l
def isSt:T→Bool
 |.int _|.bool|.str|.sl _|.ptr _|.clo _ _|.clov _|.clo0 _|.err|.clo2 _ _ _|.clo3 _ _ _ _|.mfn _ _=>false
 |_=>true
theorem encD_cell:∀ (t:T) (x:den t),allCell (encD t x)=true:=by
 intro t x
 cases t<;>try rfl
 ·obtain ⟨a,b,c⟩:=x
  cases c<;>rfl
 ·obtain ⟨_,_,_,_,_,⟨_,m⟩,⟨_,q,_,_,_⟩,_,_,_,_⟩:=x
  cases m<;>cases q<;>rfl
inductive NilI:I→I→Prop
 |same (d:I):NilI d d
 |nil (t:T):NilI .nil (.sl t [])
 |nsl (t:T) (l:List (den t)):NilI (.nsl t l) (.sl t l)
inductive NilIL:List I→List I→Prop
 |nil:NilIL [] []
 |cons {d d':I}{l l':List I}:NilI d d'→NilIL l l'→NilIL (d::l) (d'::l')
theorem tI_bind {k:IntKind}{α:Type}{r:List I}{f:Int×List I→Option α}{x:α} (h:(tI k r).bind f=some x):∃ n r',r=.int k n::r'∧f (n,r')=some x:=by
 cases r with
 |nil=>cases h
 |cons d r =>
  cases d<;>try (cases h;done)
  rename_i k' n
  simp only[tI]at h
  split at h
  ·rename_i e;subst e;exact⟨n,r,rfl,h⟩
  ·cases h
theorem tB_bind {α:Type}{r:List I}{f:Bool×List I→Option α}{x:α} (h:(tB r).bind f=some x):∃ n r',r=.bool n::r'∧f (n,r')=some x:=by
 cases r with
 |nil=>cases h
 |cons d r=>cases d<;>first|(cases h;done)|exact⟨_,_,rfl,h⟩
theorem tS_bind {α:Type}{r:List I}{f:ByteArray×List I→Option α}{x:α} (h:(tS r).bind f=some x):∃ n r',r=.str n::r'∧f (n,r')=some x:=by
 cases r with
 |nil=>cases h
 |cons d r=>cases d<;>first|(cases h;done)|exact⟨_,_,rfl,h⟩
theorem asL_eq {t t':T}{l:List (den t')}{m:List (den t)} (h:asL t t' l=some m):(I.sl t' l)=.sl t m:=by
 unfold asL at h
 split at h
 ·rename_i e;subst e;simp only[Option.some.injEq]at h;subst h;rfl
 ·cases h
theorem tL_bind {t:T}{α:Type}{r:List I}{f:List (den t)×List I→Option α}{x:α} (h:(tL t r).bind f=some x):∃ d l r',r=d::r'∧NilI d (.sl t l)∧f (l,r')=some x:=by
 cases r with
 |nil=>cases h
 |cons d r =>
  cases d<;>try (cases h;done)
  ·rename_i t' l
   simp only[tL]at h
   cases ha:asL t t' l with
   |none=>rw[ha]at h;cases h
   |some m=>rw[ha]at h;exact⟨_,m,r,rfl,by rw[asL_eq ha];exact .same _,h⟩
  ·rename_i t' l
   simp only[tL]at h
   cases ha:asL t t' l with
   |none=>rw[ha]at h;cases h
   |some m =>
    rw[ha]at h
    have e:=asL_eq ha
    simp only[I.sl.injEq]at e
    obtain ⟨rfl,e⟩:=e
    have e:=eq_of_heq e
    subst e
    exact⟨_,_,r,rfl,.nsl _ _,h⟩
  ·exact⟨_,[],r,rfl,.nil t,h⟩
theorem noNil_eq:∀ {l m:List I},NilIL l m→noNil l=true→l=m
 |_,_,.nil,_=>rfl
 |_,_,.cons (d:=d) (l:=l) h1 h2,hn=>by
  cases h1 with
  |same =>
   have:noNil l=true:=by cases d<;>first|exact hn|exact absurd hn (by simp[noNil])
   rw[noNil_eq h2 this]
  |nil=>cases hn
  |nsl=>cases hn
theorem tP_ok {α:Type}{dec:List I→Option α}{enc:α→List I} (hd:∀ {r x},dec r=some x→NilIL r (enc x)) {r:List I}{x:α} (h:tP dec r=some x):r=[.rp (enc x) 0]:=by
 unfold tP at h
 split at h
 ·rename_i l o r'
  split at h
  ·cases hc:noNil l&&Nat.beq o 0 with
   |false=>rw[hc]at h;cases h
   |true =>
    rw[hc]at h
    simp only[Bool.and_eq_true]at hc
    rw[noNil_eq (hd h) hc.1,Nat.eq_of_beq_eq_true hc.2]
  ·cases h
 ·cases h
theorem tC_ok {α:Type}{f:FuncId}{dec:List I→Option α}{enc:α→List I} (hd:∀ {r x},dec r=some x→NilIL r (enc x)) {r:List I}{x:α} (h:tC f dec r=some x):r=[.fn f [.rp (enc x) 0]]:=by
 unfold tC at h
 split at h
 ·rename_i g c r'
  split at h
  ·cases hc:Nat.beq g f with
   |false=>rw[hc]at h;cases h
   |true =>
    rw[hc]at h
    rw[tP_ok hd h,Nat.eq_of_beq_eq_true hc]
  ·cases h
 ·cases h
theorem nlE_eq:∀ {l m:List I},NilIL l m→nlE l m=true→l=m
 |_,_,.nil,_=>rfl
 |_,_,.cons (d:=d) (d':=d') (l:=l) (l':=m) h1 h2,hn=>by
  cases h1 with
  |same =>
   have:nlE l m=true:=by
    cases d<;>first|exact hn|exact absurd hn (by simp[nlE,isNilI])|exact(Bool.and_eq_true _ _ ▸ hn).2
   rw[nlE_eq h2 this]
  |nil=>exact absurd hn (by simp[nlE,isNilI])
  |nsl=>cases hn
theorem tPe_ok {α:Type}{dec:List I→Option α}{enc:α→List I} (hd:∀ {r x},dec r=some x→NilIL r (enc x)) {r:List I}{x:α} (h:tPe dec enc r=some x):r=[.rp (enc x) 0]:=by
 unfold tPe at h
 split at h
 ·rename_i l o r'
  split at h
  ·cases ha:dec l with
   |none=>rw[ha]at h;cases h
   |some y =>
    rw[ha]at h
    cases hc:nlE l (enc y)&&Nat.beq o 0 with
    |false=>simp only[hc]at h;cases h
    |true =>
     simp only[hc,cond_true,Option.some.injEq]at h
     subst h
     simp only[Bool.and_eq_true]at hc
     rw[nlE_eq (hd ha) hc.1,Nat.eq_of_beq_eq_true hc.2]
  ·cases h
 ·cases h
theorem tCv_ok {α:Type}{dec:List I→Option α}{enc:α→List I} (hd:∀ {r x},dec r=some x→NilIL r (enc x)) {r:List I}{x:Nat×α} (h:tCv dec enc r=some x):r=[.fn x.1 [.rp (enc x.2) 0]]:=by
 unfold tCv at h
 split at h
 ·rename_i g c r'
  split at h
  ·cases ha:tPe dec enc c with
   |none=>rw[ha]at h;cases h
   |some a =>
    rw[ha]at h
    simp only[Option.bind_some,Option.some.injEq]at h
    subst h
    rw[tPe_ok hd ha]
  ·cases h
 ·cases h
theorem tC0_ok {f:FuncId}{r:List I}{x:Unit} (h:tC0 f r=some x):r=[.fn f []]:=by
 unfold tC0 at h
 split at h
 ·rename_i g c r'
  split at h
  ·cases hc:Nat.beq g f with
   |false=>rw[hc]at h;cases h
   |true =>
    rw[hc]at h
    simp only[cond_true]at h
    split at h
    ·rw[Nat.eq_of_beq_eq_true hc]
    ·cases h
  ·cases h
 ·cases h
theorem tC2_ok {α β:Type}{f:FuncId}{da:List I→Option α}{db:List I→Option β}{ea:α→List I}{eb:β→List I} (ha:∀ {r x},da r=some x→NilIL r (ea x)) (hb:∀ {r x},db r=some x→NilIL r (eb x)) {r:List I}{x:α×β} (h:tC2 f da db r=some x):r=[.fn f [.rp (ea x.1) 0,.rp (eb x.2) 0]]:=by
 unfold tC2 at h
 split at h
 ·rename_i g c r'
  split at h
  ·cases hc:Nat.beq g f with
   |false=>rw[hc]at h;cases h
   |true =>
    rw[hc]at h
    simp only[cond_true]at h
    split at h
    ·rename_i y ys
     cases h1:tP da [y] with
     |none=>rw[h1]at h;cases h
     |some a =>
      rw[h1]at h
      simp only[Option.bind_some]at h
      cases h2:tP db ys with
      |none=>rw[h2]at h;cases h
      |some b =>
       rw[h2]at h
       simp only[Option.bind_some,Option.some.injEq]at h
       subst h
       have e1:=tP_ok ha h1
       have e2:=tP_ok hb h2
       simp only[List.cons.injEq,and_true]at e1
       rw[Nat.eq_of_beq_eq_true hc,e1,e2]
    ·cases h
  ·cases h
 ·cases h
theorem tC3_ok {α β γ:Type}{f:FuncId}{da:List I→Option α}{db:List I→Option β}{dc:List I→Option γ}{ea:α→List I}{eb:β→List I}{ec:γ→List I} (ha:∀ {r x},da r=some x→NilIL r (ea x)) (hb:∀ {r x},db r=some x→NilIL r (eb x)) (hc':∀ {r x},dc r=some x→NilIL r (ec x)) {r:List I}{x:α×β×γ} (h:tC3 f da db dc r=some x):r=[.fn f [.rp (ea x.1) 0,.rp (eb x.2.1) 0,.rp (ec x.2.2) 0]]:=by
 unfold tC3 at h
 split at h
 ·rename_i g c r'
  split at h
  ·cases hc:Nat.beq g f with
   |false=>rw[hc]at h;cases h
   |true =>
    rw[hc]at h
    simp only[cond_true]at h
    split at h
    ·rename_i y y2 ys
     cases h1:tP da [y] with
     |none=>rw[h1]at h;cases h
     |some a =>
      rw[h1]at h
      simp only[Option.bind_some]at h
      cases h2:tP db [y2] with
      |none=>rw[h2]at h;cases h
      |some b =>
       rw[h2]at h
       simp only[Option.bind_some]at h
       cases h3:tP dc ys with
       |none=>rw[h3]at h;cases h
       |some d =>
        rw[h3]at h
        simp only[Option.bind_some,Option.some.injEq]at h
        subst h
        have e1:=tP_ok ha h1
        have e2:=tP_ok hb h2
        have e3:=tP_ok hc' h3
        simp only[List.cons.injEq,and_true]at e1 e2
        rw[Nat.eq_of_beq_eq_true hc,e1,e2,e3]
    ·cases h
  ·cases h
 ·cases h
theorem tM_ok {α:Type}{f:FuncId}{dec:List I→Option α}{enc:α→List I} (hd:∀ {r x},dec r=some x→NilIL r (enc x)) {r:List I}{x:α} (h:tM f dec r=some x):r=[.mf f [.agg (enc x)]]:=by
 unfold tM at h
 split at h
 ·rename_i g c r'
  split at h
  ·cases hc:Nat.beq g f with
   |false=>rw[hc]at h;cases h
   |true =>
    rw[hc]at h
    simp only[cond_true]at h
    split at h
    ·rename_i l
     cases hn:noNil l with
     |false=>rw[hn]at h;cases h
     |true =>
      rw[hn]at h
      rw[Nat.eq_of_beq_eq_true hc,noNil_eq (hd h) hn]
    ·cases h
  ·cases h
 ·cases h
theorem tE_ok {α:Type}{r:List I}{a x:α} (h:tE r a=some x):r=[]∧a=x:=by
 cases r with
 |nil=>exact⟨rfl,by simpa[tE] using h⟩
 |cons=>cases h
theorem decSpan_ok {r:List I}{x:Span} (h:decSpan r=some x):NilIL r (encSpan x):=by
 have h0:=h;unfold decSpan at h0;clear h
 obtain ⟨n0,r0,q0,h1⟩:=tI_bind h0
 replace q0:r=_:=q0;subst q0
 obtain ⟨n1,r1,q1,h2⟩:=tI_bind h1
 replace q1:r0=_:=q1;subst q1
 obtain ⟨qe,qx⟩:=tE_ok h2
 replace qe:r1=[]:=qe;subst qe;subst qx
 exact .cons (.same _) (.cons (.same _) (NilIL.nil))
theorem decThree_ok {r:List I}{x:Three} (h:decThree r=some x):NilIL r (encThree x):=by
 have h0:=h;unfold decThree at h0;clear h
 obtain ⟨n0,r0,q0,h1⟩:=tI_bind h0
 replace q0:r=_:=q0;subst q0
 obtain ⟨n1,r1,q1,h2⟩:=tI_bind h1
 replace q1:r0=_:=q1;subst q1
 obtain ⟨n2,r2,q2,h3⟩:=tI_bind h2
 replace q2:r1=_:=q2;subst q2
 obtain ⟨qe,qx⟩:=tE_ok h3
 replace qe:r2=[]:=qe;subst qe;subst qx
 exact .cons (.same _) (.cons (.same _) (.cons (.same _) (NilIL.nil)))
theorem decReach_ok {r:List I}{x:Rech} (h:decRech r=some x):NilIL r (encRech x):=by
 have h0:=h;unfold decRech at h0;clear h
 obtain ⟨n0,r0,q0,h1⟩:=tI_bind h0
 replace q0:r=_:=q0;subst q0
 obtain ⟨n1,r1,q1,h2⟩:=tI_bind h1
 replace q1:r0=_:=q1;subst q1
 obtain ⟨n2,r2,q2,h3⟩:=tI_bind h2
 replace q2:r1=_:=q2;subst q2
 obtain ⟨n3,r3,q3,h4⟩:=tI_bind h3
 replace q3:r2=_:=q3;subst q3
 obtain ⟨n4,r4,q4,h5⟩:=tI_bind h4
 replace q4:r3=_:=q4;subst q4
 obtain ⟨qe,qx⟩:=tE_ok h5
 replace qe:r4=[]:=qe;subst qe;subst qx
 exact .cons (.same _) (.cons (.same _) (.cons (.same _) (.cons (.same _) (.cons (.same _) (NilIL.nil)))))
theorem decSurvey_ok {r:List I}{x:Survey} (h:decSurvey r=some x):NilIL r (encSurvey x):=by
 have h0:=h;unfold decSurvey at h0;clear h
 obtain ⟨d0,l0,r0,q0,e0,h1⟩:=tL_bind h0
 replace q0:r=_:=q0;subst q0
 obtain ⟨n1,r1,q1,h2⟩:=tI_bind h1
 replace q1:r0=_:=q1;subst q1
 obtain ⟨n2,r2,q2,h3⟩:=tI_bind h2
 replace q2:r1=_:=q2;subst q2
 obtain ⟨n3,r3,q3,h4⟩:=tI_bind h3
 replace q3:r2=_:=q3;subst q3
 obtain ⟨qe,qx⟩:=tE_ok h4
 replace qe:r3=[]:=qe;subst qe;subst qx
 exact .cons e0 (.cons (.same _) (.cons (.same _) (.cons (.same _) (NilIL.nil))))
theorem decLook_ok {r:List I}{x:Look} (h:decLook r=some x):NilIL r (encLook x):=by
 have h0:=h;unfold decLook at h0;clear h
 obtain ⟨n0,r0,q0,h1⟩:=tI_bind h0
 replace q0:r=_:=q0;subst q0
 obtain ⟨n1,r1,q1,h2⟩:=tI_bind h1
 replace q1:r0=_:=q1;subst q1
 obtain ⟨n2,r2,q2,h3⟩:=tI_bind h2
 replace q2:r1=_:=q2;subst q2
 obtain ⟨n3,r3,q3,h4⟩:=tI_bind h3
 replace q3:r2=_:=q3;subst q3
 obtain ⟨n4,r4,q4,h5⟩:=tI_bind h4
 replace q4:r3=_:=q4;subst q4
 obtain ⟨qe,qx⟩:=tE_ok h5
 replace qe:r4=[]:=qe;subst qe;subst qx
 exact .cons (.same _) (.cons (.same _) (.cons (.same _) (.cons (.same _) (.cons (.same _) (NilIL.nil)))))
theorem decMark_ok {r:List I}{x:Mrk} (h:decMrk r=some x):NilIL r (encMrk x):=by
 have h0:=h;unfold decMrk at h0;clear h
 obtain ⟨n0,r0,q0,h1⟩:=tI_bind h0
 replace q0:r=_:=q0;subst q0
 obtain ⟨n1,r1,q1,h2⟩:=tI_bind h1
 replace q1:r0=_:=q1;subst q1
 obtain ⟨n2,r2,q2,h3⟩:=tI_bind h2
 replace q2:r1=_:=q2;subst q2
 obtain ⟨n3,r3,q3,h4⟩:=tI_bind h3
 replace q3:r2=_:=q3;subst q3
 obtain ⟨n4,r4,q4,h5⟩:=tI_bind h4
 replace q4:r3=_:=q4;subst q4
 obtain ⟨qe,qx⟩:=tE_ok h5
 replace qe:r4=[]:=qe;subst qe;subst qx
 exact .cons (.same _) (.cons (.same _) (.cons (.same _) (.cons (.same _) (.cons (.same _) (NilIL.nil)))))
theorem decClosure_ok {r:List I}{x:Closure} (h:decClosure r=some x):NilIL r (encClosure x):=by
 have h0:=h;unfold decClosure at h0;clear h
 obtain ⟨n0,r0,q0,h1⟩:=tI_bind h0
 replace q0:r=_:=q0;subst q0
 obtain ⟨n1,r1,q1,h2⟩:=tI_bind h1
 replace q1:r0=_:=q1;subst q1
 obtain ⟨n2,r2,q2,h3⟩:=tI_bind h2
 replace q2:r1=_:=q2;subst q2
 obtain ⟨qe,qx⟩:=tE_ok h3
 replace qe:r2=[]:=qe;subst qe;subst qx
 exact .cons (.same _) (.cons (.same _) (.cons (.same _) (NilIL.nil)))
theorem decShare_ok {r:List I}{x:Share} (h:decShare r=some x):NilIL r (encShare x):=by
 have h0:=h;unfold decShare at h0;clear h
 obtain ⟨n0,r0,q0,h1⟩:=tI_bind h0
 replace q0:r=_:=q0;subst q0
 obtain ⟨n1,r1,q1,h2⟩:=tI_bind h1
 replace q1:r0=_:=q1;subst q1
 obtain ⟨qe,qx⟩:=tE_ok h2
 replace qe:r1=[]:=qe;subst qe;subst qx
 exact .cons (.same _) (.cons (.same _) (NilIL.nil))
theorem decPlate_ok {r:List I}{x:Plate} (h:decPlate r=some x):NilIL r (encPlate x):=by
 have h0:=h;unfold decPlate at h0;clear h
 obtain ⟨n0,r0,q0,h1⟩:=tI_bind h0
 replace q0:r=_:=q0;subst q0
 obtain ⟨n1,r1,q1,h2⟩:=tI_bind h1
 replace q1:r0=_:=q1;subst q1
 obtain ⟨d2,l2,r2,q2,e2,h3⟩:=tL_bind h2
 replace q2:r1=_:=q2;subst q2
 obtain ⟨d3,l3,r3,q3,e3,h4⟩:=tL_bind h3
 replace q3:r2=_:=q3;subst q3
 obtain ⟨n4,r4,q4,h5⟩:=tI_bind h4
 replace q4:r3=_:=q4;subst q4
 obtain ⟨n5,r5,q5,h6⟩:=tI_bind h5
 replace q5:r4=_:=q5;subst q5
 obtain ⟨n6,r6,q6,h7⟩:=tI_bind h6
 replace q6:r5=_:=q6;subst q6
 obtain ⟨n7,r7,q7,h8⟩:=tI_bind h7
 replace q7:r6=_:=q7;subst q7
 obtain ⟨n8,r8,q8,h9⟩:=tI_bind h8
 replace q8:r7=_:=q8;subst q8
 obtain ⟨n9,r9,q9,h10⟩:=tI_bind h9
 replace q9:r8=_:=q9;subst q9
 obtain ⟨n10,r10,q10,h11⟩:=tI_bind h10
 replace q10:r9=_:=q10;subst q10
 obtain ⟨qe,qx⟩:=tE_ok h11
 replace qe:r10=[]:=qe;subst qe;subst qx
 exact .cons (.same _) (.cons (.same _) (.cons e2 (.cons e3 (.cons (.same _) (.cons (.same _) (.cons (.same _) (.cons (.same _) (.cons (.same _) (.cons (.same _) (.cons (.same _) (NilIL.nil)))))))))))
theorem decAccount_ok {r:List I}{x:Account} (h:decAccount r=some x):NilIL r (encAccount x):=by
 have h0:=h;unfold decAccount at h0;clear h
 obtain ⟨n0,r0,q0,h1⟩:=tS_bind h0
 replace q0:r=_:=q0;subst q0
 obtain ⟨n1,r1,q1,h2⟩:=tI_bind h1
 replace q1:r0=_:=q1;subst q1
 obtain ⟨n2,r2,q2,h3⟩:=tI_bind h2
 replace q2:r1=_:=q2;subst q2
 obtain ⟨n3,r3,q3,h4⟩:=tI_bind h3
 replace q3:r2=_:=q3;subst q3
 obtain ⟨n4,r4,q4,h5⟩:=tI_bind h4
 replace q4:r3=_:=q4;subst q4
 obtain ⟨n5,r5,q5,h6⟩:=tI_bind h5
 replace q5:r4=_:=q5;subst q5
 obtain ⟨qe,qx⟩:=tE_ok h6
 replace qe:r5=[]:=qe;subst qe;subst qx
 exact .cons (.same _) (.cons (.same _) (.cons (.same _) (.cons (.same _) (.cons (.same _) (.cons (.same _) (NilIL.nil))))))
theorem decMove_ok {r:List I}{x:Mov} (h:decMov r=some x):NilIL r (encMov x):=by
 have h0:=h;unfold decMov at h0;clear h
 obtain ⟨n0,r0,q0,h1⟩:=tI_bind h0
 replace q0:r=_:=q0;subst q0
 obtain ⟨n1,r1,q1,h2⟩:=tI_bind h1
 replace q1:r0=_:=q1;subst q1
 obtain ⟨n2,r2,q2,h3⟩:=tI_bind h2
 replace q2:r1=_:=q2;subst q2
 obtain ⟨n3,r3,q3,h4⟩:=tI_bind h3
 replace q3:r2=_:=q3;subst q3
 obtain ⟨qe,qx⟩:=tE_ok h4
 replace qe:r3=[]:=qe;subst qe;subst qx
 exact .cons (.same _) (.cons (.same _) (.cons (.same _) (.cons (.same _) (NilIL.nil))))
theorem decBook_ok {r:List I}{x:Book} (h:decBook r=some x):NilIL r (encBook x):=by
 have h0:=h;unfold decBook at h0;clear h
 obtain ⟨d0,l0,r0,q0,e0,h1⟩:=tL_bind h0
 replace q0:r=_:=q0;subst q0
 obtain ⟨d1,l1,r1,q1,e1,h2⟩:=tL_bind h1
 replace q1:r0=_:=q1;subst q1
 obtain ⟨qe,qx⟩:=tE_ok h2
 replace qe:r1=[]:=qe;subst qe;subst qx
 exact .cons e0 (.cons e1 (NilIL.nil))
theorem decPath_ok {r:List I}{x:Path} (h:decPath r=some x):NilIL r (encPath x):=by
 have h0:=h;unfold decPath at h0;clear h
 obtain ⟨n0,r0,q0,h1⟩:=tI_bind h0
 replace q0:r=_:=q0;subst q0
 obtain ⟨n1,r1,q1,h2⟩:=tI_bind h1
 replace q1:r0=_:=q1;subst q1
 obtain ⟨n2,r2,q2,h3⟩:=tI_bind h2
 replace q2:r1=_:=q2;subst q2
 obtain ⟨n3,r3,q3,h4⟩:=tI_bind h3
 replace q3:r2=_:=q3;subst q3
 obtain ⟨n4,r4,q4,h5⟩:=tI_bind h4
 replace q4:r3=_:=q4;subst q4
 obtain ⟨qe,qx⟩:=tE_ok h5
 replace qe:r4=[]:=qe;subst qe;subst qx
 exact .cons (.same _) (.cons (.same _) (.cons (.same _) (.cons (.same _) (.cons (.same _) (NilIL.nil)))))
theorem decPost_ok {r:List I}{x:Post} (h:decPost r=some x):NilIL r (encPost x):=by
 have h0:=h;unfold decPost at h0;clear h
 obtain ⟨n0,r0,q0,h1⟩:=tI_bind h0
 replace q0:r=_:=q0;subst q0
 obtain ⟨n1,r1,q1,h2⟩:=tI_bind h1
 replace q1:r0=_:=q1;subst q1
 obtain ⟨n2,r2,q2,h3⟩:=tI_bind h2
 replace q2:r1=_:=q2;subst q2
 obtain ⟨n3,r3,q3,h4⟩:=tI_bind h3
 replace q3:r2=_:=q3;subst q3
 obtain ⟨n4,r4,q4,h5⟩:=tI_bind h4
 replace q4:r3=_:=q4;subst q4
 obtain ⟨n5,r5,q5,h6⟩:=tI_bind h5
 replace q5:r4=_:=q5;subst q5
 obtain ⟨d6,l6,r6,q6,e6,h7⟩:=tL_bind h6
 replace q6:r5=_:=q6;subst q6
 obtain ⟨qe,qx⟩:=tE_ok h7
 replace qe:r6=[]:=qe;subst qe;subst qx
 exact .cons (.same _) (.cons (.same _) (.cons (.same _) (.cons (.same _) (.cons (.same _) (.cons (.same _) (.cons e6 (NilIL.nil)))))))
theorem decChill_ok {r:List I}{x:Chill} (h:decChill r=some x):NilIL r (encChill x):=by
 have h0:=h;unfold decChill at h0;clear h
 obtain ⟨n0,r0,q0,h1⟩:=tI_bind h0
 replace q0:r=_:=q0;subst q0
 obtain ⟨n1,r1,q1,h2⟩:=tI_bind h1
 replace q1:r0=_:=q1;subst q1
 obtain ⟨n2,r2,q2,h3⟩:=tI_bind h2
 replace q2:r1=_:=q2;subst q2
 obtain ⟨qe,qx⟩:=tE_ok h3
 replace qe:r2=[]:=qe;subst qe;subst qx
 exact .cons (.same _) (.cons (.same _) (.cons (.same _) (NilIL.nil)))
theorem decRescue_ok {r:List I}{x:Rescue} (h:decRescue r=some x):NilIL r (encRescue x):=by
 have h0:=h;unfold decRescue at h0;clear h
 obtain ⟨n0,r0,q0,h1⟩:=tI_bind h0
 replace q0:r=_:=q0;subst q0
 obtain ⟨d1,l1,r1,q1,e1,h2⟩:=tL_bind h1
 replace q1:r0=_:=q1;subst q1
 obtain ⟨d2,l2,r2,q2,e2,h3⟩:=tL_bind h2
 replace q2:r1=_:=q2;subst q2
 obtain ⟨d3,l3,r3,q3,e3,h4⟩:=tL_bind h3
 replace q3:r2=_:=q3;subst q3
 obtain ⟨d4,l4,r4,q4,e4,h5⟩:=tL_bind h4
 replace q4:r3=_:=q4;subst q4
 obtain ⟨qe,qx⟩:=tE_ok h5
 replace qe:r4=[]:=qe;subst qe;subst qx
 exact .cons (.same _) (.cons e1 (.cons e2 (.cons e3 (.cons e4 (NilIL.nil)))))
theorem decRules_ok {r:List I}{x:Rules} (h:decRules r=some x):NilIL r (encRules x):=by
 have h0:=h;unfold decRules at h0;clear h
 obtain ⟨n0,r0,q0,h1⟩:=tI_bind h0
 replace q0:r=_:=q0;subst q0
 obtain ⟨n1,r1,q1,h2⟩:=tI_bind h1
 replace q1:r0=_:=q1;subst q1
 obtain ⟨n2,r2,q2,h3⟩:=tI_bind h2
 replace q2:r1=_:=q2;subst q2
 obtain ⟨n3,r3,q3,h4⟩:=tI_bind h3
 replace q3:r2=_:=q3;subst q3
 obtain ⟨qe,qx⟩:=tE_ok h4
 replace qe:r3=[]:=qe;subst qe;subst qx
 exact .cons (.same _) (.cons (.same _) (.cons (.same _) (.cons (.same _) (NilIL.nil))))
theorem decTurn_ok {r:List I}{x:Turn} (h:decTurn r=some x):NilIL r (encTurn x):=by
 have h0:=h;unfold decTurn at h0;clear h
 obtain ⟨n0,r0,q0,h1⟩:=tI_bind h0
 replace q0:r=_:=q0;subst q0
 obtain ⟨n1,r1,q1,h2⟩:=tI_bind h1
 replace q1:r0=_:=q1;subst q1
 obtain ⟨n2,r2,q2,h3⟩:=tI_bind h2
 replace q2:r1=_:=q2;subst q2
 obtain ⟨n3,r3,q3,h4⟩:=tI_bind h3
 replace q3:r2=_:=q3;subst q3
 obtain ⟨qe,qx⟩:=tE_ok h4
 replace qe:r3=[]:=qe;subst qe;subst qx
 exact .cons (.same _) (.cons (.same _) (.cons (.same _) (.cons (.same _) (NilIL.nil))))
theorem tNs_bind {t:T}{α:Type}{r:List I}{f:List (den t)×List I→Option α}{x:α} (h:(tNs t r).bind f=some x):∃ l r',r=nsI t l::r'∧f (l,r')=some x:=by
 cases r with
 |nil=>cases h
 |cons d r =>
  cases d<;>try (cases h;done)
  ·rename_i t' l
   simp only[tNs]at h
   cases ha:asL t t' l with
   |none=>rw[ha]at h;cases h
   |some m =>
    rw[ha]at h
    cases m with
    |nil=>cases h
    |cons a m=>exact⟨a::m,r,by rw[asL_eq ha];rfl,h⟩
  ·exact⟨[],r,rfl,h⟩
theorem decDriver_ok {r:List I}{x:Driver} (h:decDriver r=some x):NilIL r (encDriver x):=by
 have h0:=h;unfold decDriver at h0;clear h
 obtain ⟨n0,r0,q0,h1⟩:=tS_bind h0
 replace q0:r=_:=q0;subst q0
 obtain ⟨n1,r1,q1,h2⟩:=tI_bind h1
 replace q1:r0=_:=q1;subst q1
 obtain ⟨l2,r2,q2,h3⟩:=tNs_bind h2
 replace q2:r1=_:=q2;subst q2
 obtain ⟨qe,qx⟩:=tE_ok h3
 replace qe:r2=[]:=qe;subst qe;subst qx
 exact .cons (.same _) (.cons (.same _) (.cons (.same _) (NilIL.nil)))
theorem decScale_ok {r:List I}{x:Scale} (h:decScale r=some x):NilIL r (encScale x):=by
 have h0:=h;unfold decScale at h0;clear h
 obtain ⟨n0,r0,q0,h1⟩:=tI_bind h0
 replace q0:r=_:=q0;subst q0
 obtain ⟨n1,r1,q1,h2⟩:=tI_bind h1
 replace q1:r0=_:=q1;subst q1
 obtain ⟨qe,qx⟩:=tE_ok h2
 replace qe:r1=[]:=qe;subst qe;subst qx
 exact .cons (.same _) (.cons (.same _) (NilIL.nil))
theorem decAllow_ok {r:List I}{x:Allow} (h:decAllow r=some x):NilIL r (encAllow x):=by
 have h0:=h;unfold decAllow at h0;clear h
 obtain ⟨n0,r0,q0,h1⟩:=tI_bind h0
 replace q0:r=_:=q0;subst q0
 obtain ⟨n1,r1,q1,h2⟩:=tI_bind h1
 replace q1:r0=_:=q1;subst q1
 obtain ⟨qe,qx⟩:=tE_ok h2
 replace qe:r1=[]:=qe;subst qe;subst qx
 exact .cons (.same _) (.cons (.same _) (NilIL.nil))
theorem decRegion_ok {r:List I}{x:Region} (h:decRegion r=some x):NilIL r (encRegion x):=by
 have h0:=h;unfold decRegion at h0;clear h
 obtain ⟨d0,l0,r0,q0,e0,h1⟩:=tL_bind h0
 replace q0:r=_:=q0;subst q0
 obtain ⟨n1,r1,q1,h2⟩:=tI_bind h1
 replace q1:r0=_:=q1;subst q1
 obtain ⟨n2,r2,q2,h3⟩:=tI_bind h2
 replace q2:r1=_:=q2;subst q2
 obtain ⟨n3,r3,q3,h4⟩:=tI_bind h3
 replace q3:r2=_:=q3;subst q3
 obtain ⟨n4,r4,q4,h5⟩:=tI_bind h4
 replace q4:r3=_:=q4;subst q4
 obtain ⟨n5,r5,q5,h6⟩:=tI_bind h5
 replace q5:r4=_:=q5;subst q5
 obtain ⟨d6,l6,r6,q6,e6,h7⟩:=tL_bind h6
 replace q6:r5=_:=q6;subst q6
 obtain ⟨d7,l7,r7,q7,e7,h8⟩:=tL_bind h7
 replace q7:r6=_:=q7;subst q7
 obtain ⟨n8,r8,q8,h9⟩:=tI_bind h8
 replace q8:r7=_:=q8;subst q8
 obtain ⟨n9,r9,q9,h10⟩:=tI_bind h9
 replace q9:r8=_:=q9;subst q9
 obtain ⟨n10,r10,q10,h11⟩:=tI_bind h10
 replace q10:r9=_:=q10;subst q10
 obtain ⟨n11,r11,q11,h12⟩:=tI_bind h11
 replace q11:r10=_:=q11;subst q11
 obtain ⟨n12,r12,q12,h13⟩:=tI_bind h12
 replace q12:r11=_:=q12;subst q12
 obtain ⟨n13,r13,q13,h14⟩:=tI_bind h13
 replace q13:r12=_:=q13;subst q13
 obtain ⟨n14,r14,q14,h15⟩:=tI_bind h14
 replace q14:r13=_:=q14;subst q14
 obtain ⟨n15,r15,q15,h16⟩:=tI_bind h15
 replace q15:r14=_:=q15;subst q15
 obtain ⟨n16,r16,q16,h17⟩:=tI_bind h16
 replace q16:r15=_:=q16;subst q16
 obtain ⟨n17,r17,q17,h18⟩:=tI_bind h17
 replace q17:r16=_:=q17;subst q17
 obtain ⟨n18,r18,q18,h19⟩:=tI_bind h18
 replace q18:r17=_:=q18;subst q18
 obtain ⟨d19,l19,r19,q19,e19,h20⟩:=tL_bind h19
 replace q19:r18=_:=q19;subst q19
 obtain ⟨l20,r20,q20,h21⟩:=tNs_bind h20
 replace q20:r19=_:=q20;subst q20
 obtain ⟨n21,r21,q21,h22⟩:=tI_bind h21
 replace q21:r20=_:=q21;subst q21
 obtain ⟨l22,r22,q22,h23⟩:=tNs_bind h22
 replace q22:r21=_:=q22;subst q22
 obtain ⟨d23,l23,r23,q23,e23,h24⟩:=tL_bind h23
 replace q23:r22=_:=q23;subst q23
 obtain ⟨d24,l24,r24,q24,e24,h25⟩:=tL_bind h24
 replace q24:r23=_:=q24;subst q24
 obtain ⟨d25,l25,r25,q25,e25,h26⟩:=tL_bind h25
 replace q25:r24=_:=q25;subst q25
 obtain ⟨n26,r26,q26,h27⟩:=tI_bind h26
 replace q26:r25=_:=q26;subst q26
 obtain ⟨n27,r27,q27,h28⟩:=tI_bind h27
 replace q27:r26=_:=q27;subst q27
 obtain ⟨n28,r28,q28,h29⟩:=tI_bind h28
 replace q28:r27=_:=q28;subst q28
 obtain ⟨n29,r29,q29,h30⟩:=tI_bind h29
 replace q29:r28=_:=q29;subst q29
 obtain ⟨d30,l30,r30,q30,e30,h31⟩:=tL_bind h30
 replace q30:r29=_:=q30;subst q30
 obtain ⟨n31,r31,q31,h32⟩:=tI_bind h31
 replace q31:r30=_:=q31;subst q31
 obtain ⟨n32,r32,q32,h33⟩:=tI_bind h32
 replace q32:r31=_:=q32;subst q32
 obtain ⟨n33,r33,q33,h34⟩:=tI_bind h33
 replace q33:r32=_:=q33;subst q33
 obtain ⟨n34,r34,q34,h35⟩:=tI_bind h34
 replace q34:r33=_:=q34;subst q34
 obtain ⟨qe,qx⟩:=tE_ok h35
 replace qe:r34=[]:=qe;subst qe;subst qx
 exact .cons e0 (.cons (.same _) (.cons (.same _) (.cons (.same _) (.cons (.same _) (.cons (.same _) (.cons e6 (.cons e7 (.cons (.same _) (.cons (.same _) (.cons (.same _) (.cons (.same _) (.cons (.same _) (.cons (.same _) (.cons (.same _) (.cons (.same _) (.cons (.same _) (.cons (.same _) (.cons (.same _) (.cons e19 (.cons (.same _) (.cons (.same _) (.cons (.same _) (.cons e23 (.cons e24 (.cons e25 (.cons (.same _) (.cons (.same _) (.cons (.same _) (.cons (.same _) (.cons e30 (.cons (.same _) (.cons (.same _) (.cons (.same _) (.cons (.same _) (NilIL.nil)))))))))))))))))))))))))))))))))))
theorem decHold_ok {r:List I}{x:Hold} (h:decHold r=some x):NilIL r (encHold x):=by
 have h0:=h;unfold decHold at h0;clear h
 obtain ⟨n0,r0,q0,h1⟩:=tI_bind h0
 replace q0:r=_:=q0;subst q0
 obtain ⟨n1,r1,q1,h2⟩:=tI_bind h1
 replace q1:r0=_:=q1;subst q1
 obtain ⟨qe,qx⟩:=tE_ok h2
 replace qe:r1=[]:=qe;subst qe;subst qx
 exact .cons (.same _) (.cons (.same _) (NilIL.nil))
theorem decTruck_ok {r:List I}{x:Truck} (h:decTruck r=some x):NilIL r (encTruck x):=by
 have h0:=h;unfold decTruck at h0;clear h
 obtain ⟨n0,r0,q0,h1⟩:=tI_bind h0
 replace q0:r=_:=q0;subst q0
 obtain ⟨n1,r1,q1,h2⟩:=tI_bind h1
 replace q1:r0=_:=q1;subst q1
 obtain ⟨n2,r2,q2,h3⟩:=tI_bind h2
 replace q2:r1=_:=q2;subst q2
 obtain ⟨n3,r3,q3,h4⟩:=tI_bind h3
 replace q3:r2=_:=q3;subst q3
 obtain ⟨d4,l4,r4,q4,e4,h5⟩:=tL_bind h4
 replace q4:r3=_:=q4;subst q4
 obtain ⟨qe,qx⟩:=tE_ok h5
 replace qe:r4=[]:=qe;subst qe;subst qx
 exact .cons (.same _) (.cons (.same _) (.cons (.same _) (.cons (.same _) (.cons e4 (NilIL.nil)))))
theorem decConvoy_ok {r:List I}{x:Convoy} (h:decConvoy r=some x):NilIL r (encConvoy x):=by
 have h0:=h;unfold decConvoy at h0;clear h
 obtain ⟨n0,r0,q0,h1⟩:=tI_bind h0
 replace q0:r=_:=q0;subst q0
 obtain ⟨n1,r1,q1,h2⟩:=tI_bind h1
 replace q1:r0=_:=q1;subst q1
 obtain ⟨n2,r2,q2,h3⟩:=tI_bind h2
 replace q2:r1=_:=q2;subst q2
 obtain ⟨d3,l3,r3,q3,e3,h4⟩:=tL_bind h3
 replace q3:r2=_:=q3;subst q3
 obtain ⟨qe,qx⟩:=tE_ok h4
 replace qe:r3=[]:=qe;subst qe;subst qx
 exact .cons (.same _) (.cons (.same _) (.cons (.same _) (.cons e3 (NilIL.nil))))
theorem decRolling_ok {r:List I}{x:Rolling} (h:decRolling r=some x):NilIL r (encRolling x):=by
 have h0:=h;unfold decRolling at h0;clear h
 obtain ⟨n0,r0,q0,h1⟩:=tI_bind h0
 replace q0:r=_:=q0;subst q0
 obtain ⟨n1,r1,q1,h2⟩:=tI_bind h1
 replace q1:r0=_:=q1;subst q1
 obtain ⟨n2,r2,q2,h3⟩:=tI_bind h2
 replace q2:r1=_:=q2;subst q2
 obtain ⟨n3,r3,q3,h4⟩:=tI_bind h3
 replace q3:r2=_:=q3;subst q3
 obtain ⟨n4,r4,q4,h5⟩:=tI_bind h4
 replace q4:r3=_:=q4;subst q4
 obtain ⟨n5,r5,q5,h6⟩:=tI_bind h5
 replace q5:r4=_:=q5;subst q5
 obtain ⟨d6,l6,r6,q6,e6,h7⟩:=tL_bind h6
 replace q6:r5=_:=q6;subst q6
 obtain ⟨qe,qx⟩:=tE_ok h7
 replace qe:r6=[]:=qe;subst qe;subst qx
 exact .cons (.same _) (.cons (.same _) (.cons (.same _) (.cons (.same _) (.cons (.same _) (.cons (.same _) (.cons e6 (NilIL.nil)))))))
theorem decDesk_ok {r:List I}{x:Desk} (h:decDesk r=some x):NilIL r (encDesk x):=by
 have h0:=h;unfold decDesk at h0;clear h
 obtain ⟨n0,r0,q0,h1⟩:=tI_bind h0
 replace q0:r=_:=q0;subst q0
 obtain ⟨d1,l1,r1,q1,e1,h2⟩:=tL_bind h1
 replace q1:r0=_:=q1;subst q1
 obtain ⟨d2,l2,r2,q2,e2,h3⟩:=tL_bind h2
 replace q2:r1=_:=q2;subst q2
 obtain ⟨d3,l3,r3,q3,e3,h4⟩:=tL_bind h3
 replace q3:r2=_:=q3;subst q3
 obtain ⟨d4,l4,r4,q4,e4,h5⟩:=tL_bind h4
 replace q4:r3=_:=q4;subst q4
 obtain ⟨d5,l5,r5,q5,e5,h6⟩:=tL_bind h5
 replace q5:r4=_:=q5;subst q5
 obtain ⟨d6,l6,r6,q6,e6,h7⟩:=tL_bind h6
 replace q6:r5=_:=q6;subst q6
 obtain ⟨qe,qx⟩:=tE_ok h7
 replace qe:r6=[]:=qe;subst qe;subst qx
 exact .cons (.same _) (.cons e1 (.cons e2 (.cons e3 (.cons e4 (.cons e5 (.cons e6 (NilIL.nil)))))))
theorem decDisp_ok {r:List I}{x:Disp} (h:decDisp r=some x):NilIL r (encDisp x):=by
 have h0:=h;unfold decDisp at h0;clear h
 obtain ⟨n0,r0,q0,h1⟩:=tI_bind h0
 replace q0:r=_:=q0;subst q0
 obtain ⟨d1,l1,r1,q1,e1,h2⟩:=tL_bind h1
 replace q1:r0=_:=q1;subst q1
 obtain ⟨d2,l2,r2,q2,e2,h3⟩:=tL_bind h2
 replace q2:r1=_:=q2;subst q2
 obtain ⟨d3,l3,r3,q3,e3,h4⟩:=tL_bind h3
 replace q3:r2=_:=q3;subst q3
 obtain ⟨d4,l4,r4,q4,e4,h5⟩:=tL_bind h4
 replace q4:r3=_:=q4;subst q4
 obtain ⟨d5,l5,r5,q5,e5,h6⟩:=tL_bind h5
 replace q5:r4=_:=q5;subst q5
 obtain ⟨d6,l6,r6,q6,e6,h7⟩:=tL_bind h6
 replace q6:r5=_:=q6;subst q6
 obtain ⟨d7,l7,r7,q7,e7,h8⟩:=tL_bind h7
 replace q7:r6=_:=q7;subst q7
 obtain ⟨n8,r8,q8,h9⟩:=tI_bind h8
 replace q8:r7=_:=q8;subst q8
 obtain ⟨n9,r9,q9,h10⟩:=tI_bind h9
 replace q9:r8=_:=q9;subst q9
 obtain ⟨n10,r10,q10,h11⟩:=tI_bind h10
 replace q10:r9=_:=q10;subst q10
 obtain ⟨n11,r11,q11,h12⟩:=tI_bind h11
 replace q11:r10=_:=q11;subst q11
 obtain ⟨n12,r12,q12,h13⟩:=tI_bind h12
 replace q12:r11=_:=q12;subst q12
 obtain ⟨d13,l13,r13,q13,e13,h14⟩:=tL_bind h13
 replace q13:r12=_:=q13;subst q13
 obtain ⟨d14,l14,r14,q14,e14,h15⟩:=tL_bind h14
 replace q14:r13=_:=q14;subst q14
 obtain ⟨n15,r15,q15,h16⟩:=tI_bind h15
 replace q15:r14=_:=q15;subst q15
 obtain ⟨n16,r16,q16,h17⟩:=tI_bind h16
 replace q16:r15=_:=q16;subst q16
 obtain ⟨n17,r17,q17,h18⟩:=tI_bind h17
 replace q17:r16=_:=q17;subst q17
 obtain ⟨n18,r18,q18,h19⟩:=tI_bind h18
 replace q18:r17=_:=q18;subst q18
 obtain ⟨n19,r19,q19,h20⟩:=tI_bind h19
 replace q19:r18=_:=q19;subst q19
 obtain ⟨n20,r20,q20,h21⟩:=tI_bind h20
 replace q20:r19=_:=q20;subst q20
 obtain ⟨n21,r21,q21,h22⟩:=tI_bind h21
 replace q21:r20=_:=q21;subst q21
 obtain ⟨n22,r22,q22,h23⟩:=tI_bind h22
 replace q22:r21=_:=q22;subst q22
 obtain ⟨n23,r23,q23,h24⟩:=tI_bind h23
 replace q23:r22=_:=q23;subst q23
 obtain ⟨n24,r24,q24,h25⟩:=tI_bind h24
 replace q24:r23=_:=q24;subst q24
 obtain ⟨n25,r25,q25,h26⟩:=tI_bind h25
 replace q25:r24=_:=q25;subst q25
 obtain ⟨d26,l26,r26,q26,e26,h27⟩:=tL_bind h26
 replace q26:r25=_:=q26;subst q26
 obtain ⟨d27,l27,r27,q27,e27,h28⟩:=tL_bind h27
 replace q27:r26=_:=q27;subst q27
 obtain ⟨n28,r28,q28,h29⟩:=tI_bind h28
 replace q28:r27=_:=q28;subst q28
 obtain ⟨d29,l29,r29,q29,e29,h30⟩:=tL_bind h29
 replace q29:r28=_:=q29;subst q29
 obtain ⟨d30,l30,r30,q30,e30,h31⟩:=tL_bind h30
 replace q30:r29=_:=q30;subst q30
 obtain ⟨d31,l31,r31,q31,e31,h32⟩:=tL_bind h31
 replace q31:r30=_:=q31;subst q31
 obtain ⟨d32,l32,r32,q32,e32,h33⟩:=tL_bind h32
 replace q32:r31=_:=q32;subst q32
 obtain ⟨n33,r33,q33,h34⟩:=tI_bind h33
 replace q33:r32=_:=q33;subst q33
 obtain ⟨n34,r34,q34,h35⟩:=tI_bind h34
 replace q34:r33=_:=q34;subst q34
 obtain ⟨n35,r35,q35,h36⟩:=tI_bind h35
 replace q35:r34=_:=q35;subst q35
 obtain ⟨n36,r36,q36,h37⟩:=tI_bind h36
 replace q36:r35=_:=q36;subst q36
 obtain ⟨d37,l37,r37,q37,e37,h38⟩:=tL_bind h37
 replace q37:r36=_:=q37;subst q37
 obtain ⟨n38,r38,q38,h39⟩:=tI_bind h38
 replace q38:r37=_:=q38;subst q38
 obtain ⟨n39,r39,q39,h40⟩:=tI_bind h39
 replace q39:r38=_:=q39;subst q39
 obtain ⟨n40,r40,q40,h41⟩:=tI_bind h40
 replace q40:r39=_:=q40;subst q40
 obtain ⟨n41,r41,q41,h42⟩:=tI_bind h41
 replace q41:r40=_:=q41;subst q41
 obtain ⟨qe,qx⟩:=tE_ok h42
 replace qe:r41=[]:=qe;subst qe;subst qx
 exact .cons (.same _) (.cons e1 (.cons e2 (.cons e3 (.cons e4 (.cons e5 (.cons e6 (.cons e7 (.cons (.same _) (.cons (.same _) (.cons (.same _) (.cons (.same _) (.cons (.same _) (.cons e13 (.cons e14 (.cons (.same _) (.cons (.same _) (.cons (.same _) (.cons (.same _) (.cons (.same _) (.cons (.same _) (.cons (.same _) (.cons (.same _) (.cons (.same _) (.cons (.same _) (.cons (.same _) (.cons e26 (.cons e27 (.cons (.same _) (.cons e29 (.cons e30 (.cons e31 (.cons e32 (.cons (.same _) (.cons (.same _) (.cons (.same _) (.cons (.same _) (.cons e37 (.cons (.same _) (.cons (.same _) (.cons (.same _) (.cons (.same _) (NilIL.nil))))))))))))))))))))))))))))))))))))))))))
theorem decOrd1_ok {r:List I}{x:Ord1} (h:decOrd1 r=some x):NilIL r (encOrd1 x):=by
 have h0:=h;unfold decOrd1 at h0;clear h
 obtain ⟨n0,r0,q0,h1⟩:=tS_bind h0
 replace q0:r=_:=q0;subst q0
 obtain ⟨n1,r1,q1,h2⟩:=tS_bind h1
 replace q1:r0=_:=q1;subst q1
 obtain ⟨n2,r2,q2,h3⟩:=tS_bind h2
 replace q2:r1=_:=q2;subst q2
 obtain ⟨d3,l3,r3,q3,e3,h4⟩:=tL_bind h3
 replace q3:r2=_:=q3;subst q3
 obtain ⟨qe,qx⟩:=tE_ok h4
 replace qe:r3=[]:=qe;subst qe;subst qx
 exact .cons (.same _) (.cons (.same _) (.cons (.same _) (.cons e3 (NilIL.nil))))
theorem decGrnd_ok {r:List I}{x:Grnd} (h:decGrnd r=some x):NilIL r (encGrnd x):=by
 have h0:=h;unfold decGrnd at h0;clear h
 obtain ⟨d0,l0,r0,q0,e0,h1⟩:=tL_bind h0
 replace q0:r=_:=q0;subst q0
 obtain ⟨n1,r1,q1,h2⟩:=tI_bind h1
 replace q1:r0=_:=q1;subst q1
 obtain ⟨n2,r2,q2,h3⟩:=tI_bind h2
 replace q2:r1=_:=q2;subst q2
 obtain ⟨n3,r3,q3,h4⟩:=tI_bind h3
 replace q3:r2=_:=q3;subst q3
 obtain ⟨d4,l4,r4,q4,e4,h5⟩:=tL_bind h4
 replace q4:r3=_:=q4;subst q4
 obtain ⟨d5,l5,r5,q5,e5,h6⟩:=tL_bind h5
 replace q5:r4=_:=q5;subst q5
 obtain ⟨qe,qx⟩:=tE_ok h6
 replace qe:r5=[]:=qe;subst qe;subst qx
 exact .cons e0 (.cons (.same _) (.cons (.same _) (.cons (.same _) (.cons e4 (.cons e5 (NilIL.nil))))))
theorem decShift_ok {r:List I}{x:Shift} (h:decShift r=some x):NilIL r (encShift x):=by
 have h0:=h;unfold decShift at h0;clear h
 obtain ⟨n0,r0,q0,h1⟩:=tS_bind h0
 replace q0:r=_:=q0;subst q0
 obtain ⟨n1,r1,q1,h2⟩:=tI_bind h1
 replace q1:r0=_:=q1;subst q1
 obtain ⟨d2,l2,r2,q2,e2,h3⟩:=tL_bind h2
 replace q2:r1=_:=q2;subst q2
 obtain ⟨n3,r3,q3,h4⟩:=tI_bind h3
 replace q3:r2=_:=q3;subst q3
 obtain ⟨n4,r4,q4,h5⟩:=tI_bind h4
 replace q4:r3=_:=q4;subst q4
 obtain ⟨n5,r5,q5,h6⟩:=tI_bind h5
 replace q5:r4=_:=q5;subst q5
 obtain ⟨n6,r6,q6,h7⟩:=tI_bind h6
 replace q6:r5=_:=q6;subst q6
 obtain ⟨qe,qx⟩:=tE_ok h7
 replace qe:r6=[]:=qe;subst qe;subst qx
 exact .cons (.same _) (.cons (.same _) (.cons e2 (.cons (.same _) (.cons (.same _) (.cons (.same _) (.cons (.same _) (NilIL.nil)))))))
theorem decMeeting_ok {r:List I}{x:Meeting} (h:decMeeting r=some x):NilIL r (encMeeting x):=by
 have h0:=h;unfold decMeeting at h0;clear h
 obtain ⟨n0,r0,q0,h1⟩:=tI_bind h0
 replace q0:r=_:=q0;subst q0
 obtain ⟨n1,r1,q1,h2⟩:=tI_bind h1
 replace q1:r0=_:=q1;subst q1
 obtain ⟨n2,r2,q2,h3⟩:=tI_bind h2
 replace q2:r1=_:=q2;subst q2
 obtain ⟨n3,r3,q3,h4⟩:=tB_bind h3
 replace q3:r2=_:=q3;subst q3
 obtain ⟨n4,r4,q4,h5⟩:=tB_bind h4
 replace q4:r3=_:=q4;subst q4
 obtain ⟨n5,r5,q5,h6⟩:=tI_bind h5
 replace q5:r4=_:=q5;subst q5
 obtain ⟨n6,r6,q6,h7⟩:=tI_bind h6
 replace q6:r5=_:=q6;subst q6
 obtain ⟨qe,qx⟩:=tE_ok h7
 replace qe:r6=[]:=qe;subst qe;subst qx
 exact .cons (.same _) (.cons (.same _) (.cons (.same _) (.cons (.same _) (.cons (.same _) (.cons (.same _) (.cons (.same _) (NilIL.nil)))))))
theorem decNearness_ok {r:List I}{x:Nearness} (h:decNearness r=some x):NilIL r (encNearness x):=by
 have h0:=h;unfold decNearness at h0;clear h
 obtain ⟨n0,r0,q0,h1⟩:=tI_bind h0
 replace q0:r=_:=q0;subst q0
 obtain ⟨n1,r1,q1,h2⟩:=tI_bind h1
 replace q1:r0=_:=q1;subst q1
 obtain ⟨qe,qx⟩:=tE_ok h2
 replace qe:r1=[]:=qe;subst qe;subst qx
 exact .cons (.same _) (.cons (.same _) (NilIL.nil))
theorem decRide_ok {r:List I}{x:Ride} (h:decRide r=some x):NilIL r (encRide x):=by
 have h0:=h;unfold decRide at h0;clear h
 obtain ⟨n0,r0,q0,h1⟩:=tI_bind h0
 replace q0:r=_:=q0;subst q0
 obtain ⟨n1,r1,q1,h2⟩:=tI_bind h1
 replace q1:r0=_:=q1;subst q1
 obtain ⟨n2,r2,q2,h3⟩:=tI_bind h2
 replace q2:r1=_:=q2;subst q2
 obtain ⟨n3,r3,q3,h4⟩:=tI_bind h3
 replace q3:r2=_:=q3;subst q3
 obtain ⟨d4,l4,r4,q4,e4,h5⟩:=tL_bind h4
 replace q4:r3=_:=q4;subst q4
 obtain ⟨n5,r5,q5,h6⟩:=tI_bind h5
 replace q5:r4=_:=q5;subst q5
 obtain ⟨qe,qx⟩:=tE_ok h6
 replace qe:r5=[]:=qe;subst qe;subst qx
 exact .cons (.same _) (.cons (.same _) (.cons (.same _) (.cons (.same _) (.cons e4 (.cons (.same _) (NilIL.nil))))))
theorem decTrack_ok {r:List I}{x:Track} (h:decTrack r=some x):NilIL r (encTrack x):=by
 have h0:=h;unfold decTrack at h0;clear h
 obtain ⟨n0,r0,q0,h1⟩:=tI_bind h0
 replace q0:r=_:=q0;subst q0
 obtain ⟨n1,r1,q1,h2⟩:=tI_bind h1
 replace q1:r0=_:=q1;subst q1
 obtain ⟨n2,r2,q2,h3⟩:=tI_bind h2
 replace q2:r1=_:=q2;subst q2
 obtain ⟨n3,r3,q3,h4⟩:=tI_bind h3
 replace q3:r2=_:=q3;subst q3
 obtain ⟨d4,l4,r4,q4,e4,h5⟩:=tL_bind h4
 replace q4:r3=_:=q4;subst q4
 obtain ⟨n5,r5,q5,h6⟩:=tI_bind h5
 replace q5:r4=_:=q5;subst q5
 obtain ⟨d6,l6,r6,q6,e6,h7⟩:=tL_bind h6
 replace q6:r5=_:=q6;subst q6
 obtain ⟨qe,qx⟩:=tE_ok h7
 replace qe:r6=[]:=qe;subst qe;subst qx
 exact .cons (.same _) (.cons (.same _) (.cons (.same _) (.cons (.same _) (.cons e4 (.cons (.same _) (.cons e6 (NilIL.nil)))))))
theorem decLanes_ok {r:List I}{x:Lanes} (h:decLanes r=some x):NilIL r (encLanes x):=by
 have h0:=h;unfold decLanes at h0;clear h
 obtain ⟨n0,r0,q0,h1⟩:=tI_bind h0
 replace q0:r=_:=q0;subst q0
 obtain ⟨n1,r1,q1,h2⟩:=tI_bind h1
 replace q1:r0=_:=q1;subst q1
 obtain ⟨n2,r2,q2,h3⟩:=tI_bind h2
 replace q2:r1=_:=q2;subst q2
 obtain ⟨n3,r3,q3,h4⟩:=tI_bind h3
 replace q3:r2=_:=q3;subst q3
 obtain ⟨d4,l4,r4,q4,e4,h5⟩:=tL_bind h4
 replace q4:r3=_:=q4;subst q4
 obtain ⟨n5,r5,q5,h6⟩:=tI_bind h5
 replace q5:r4=_:=q5;subst q5
 obtain ⟨d6,l6,r6,q6,e6,h7⟩:=tL_bind h6
 replace q6:r5=_:=q6;subst q6
 obtain ⟨n7,r7,q7,h8⟩:=tI_bind h7
 replace q7:r6=_:=q7;subst q7
 obtain ⟨n8,r8,q8,h9⟩:=tI_bind h8
 replace q8:r7=_:=q8;subst q8
 obtain ⟨n9,r9,q9,h10⟩:=tI_bind h9
 replace q9:r8=_:=q9;subst q9
 obtain ⟨n10,r10,q10,h11⟩:=tI_bind h10
 replace q10:r9=_:=q10;subst q10
 obtain ⟨d11,l11,r11,q11,e11,h12⟩:=tL_bind h11
 replace q11:r10=_:=q11;subst q11
 obtain ⟨n12,r12,q12,h13⟩:=tI_bind h12
 replace q12:r11=_:=q12;subst q12
 obtain ⟨d13,l13,r13,q13,e13,h14⟩:=tL_bind h13
 replace q13:r12=_:=q13;subst q13
 obtain ⟨qe,qx⟩:=tE_ok h14
 replace qe:r13=[]:=qe;subst qe;subst qx
 exact .cons (.same _) (.cons (.same _) (.cons (.same _) (.cons (.same _) (.cons e4 (.cons (.same _) (.cons e6 (.cons (.same _) (.cons (.same _) (.cons (.same _) (.cons (.same _) (.cons e11 (.cons (.same _) (.cons e13 (NilIL.nil))))))))))))))
theorem decSide_ok {r:List I}{x:Side} (h:decSide r=some x):NilIL r (encSide x):=by
 have h0:=h;unfold decSide at h0;clear h
 obtain ⟨n0,r0,q0,h1⟩:=tB_bind h0
 replace q0:r=_:=q0;subst q0
 obtain ⟨qe,qx⟩:=tE_ok h1
 replace qe:r0=[]:=qe;subst qe;subst qx
 exact .cons (.same _) (NilIL.nil)
theorem decScene_ok {r:List I}{x:Scene} (h:decScene r=some x):NilIL r (encScene x):=by
 have h0:=h;unfold decScene at h0;clear h
 obtain ⟨n0,r0,q0,h1⟩:=tB_bind h0
 replace q0:r=_:=q0;subst q0
 obtain ⟨n1,r1,q1,h2⟩:=tI_bind h1
 replace q1:r0=_:=q1;subst q1
 obtain ⟨n2,r2,q2,h3⟩:=tI_bind h2
 replace q2:r1=_:=q2;subst q2
 obtain ⟨d3,l3,r3,q3,e3,h4⟩:=tL_bind h3
 replace q3:r2=_:=q3;subst q3
 obtain ⟨d4,l4,r4,q4,e4,h5⟩:=tL_bind h4
 replace q4:r3=_:=q4;subst q4
 obtain ⟨n5,r5,q5,h6⟩:=tI_bind h5
 replace q5:r4=_:=q5;subst q5
 obtain ⟨n6,r6,q6,h7⟩:=tI_bind h6
 replace q6:r5=_:=q6;subst q6
 obtain ⟨n7,r7,q7,h8⟩:=tI_bind h7
 replace q7:r6=_:=q7;subst q7
 obtain ⟨n8,r8,q8,h9⟩:=tI_bind h8
 replace q8:r7=_:=q8;subst q8
 obtain ⟨n9,r9,q9,h10⟩:=tI_bind h9
 replace q9:r8=_:=q9;subst q9
 obtain ⟨n10,r10,q10,h11⟩:=tI_bind h10
 replace q10:r9=_:=q10;subst q10
 obtain ⟨n11,r11,q11,h12⟩:=tI_bind h11
 replace q11:r10=_:=q11;subst q11
 obtain ⟨d12,l12,r12,q12,e12,h13⟩:=tL_bind h12
 replace q12:r11=_:=q12;subst q12
 obtain ⟨d13,l13,r13,q13,e13,h14⟩:=tL_bind h13
 replace q13:r12=_:=q13;subst q13
 obtain ⟨qe,qx⟩:=tE_ok h14
 replace qe:r13=[]:=qe;subst qe;subst qx
 exact .cons (.same _) (.cons (.same _) (.cons (.same _) (.cons e3 (.cons e4 (.cons (.same _) (.cons (.same _) (.cons (.same _) (.cons (.same _) (.cons (.same _) (.cons (.same _) (.cons (.same _) (.cons e12 (.cons e13 (NilIL.nil))))))))))))))
theorem decWatch_ok {r:List I}{x:Watch} (h:decWatch r=some x):NilIL r (encWatch x):=by
 have h0:=h;unfold decWatch at h0;clear h
 obtain ⟨n0,r0,q0,h1⟩:=tI_bind h0
 replace q0:r=_:=q0;subst q0
 obtain ⟨d1,l1,r1,q1,e1,h2⟩:=tL_bind h1
 replace q1:r0=_:=q1;subst q1
 obtain ⟨d2,l2,r2,q2,e2,h3⟩:=tL_bind h2
 replace q2:r1=_:=q2;subst q2
 obtain ⟨d3,l3,r3,q3,e3,h4⟩:=tL_bind h3
 replace q3:r2=_:=q3;subst q3
 obtain ⟨d4,l4,r4,q4,e4,h5⟩:=tL_bind h4
 replace q4:r3=_:=q4;subst q4
 obtain ⟨d5,l5,r5,q5,e5,h6⟩:=tL_bind h5
 replace q5:r4=_:=q5;subst q5
 obtain ⟨d6,l6,r6,q6,e6,h7⟩:=tL_bind h6
 replace q6:r5=_:=q6;subst q6
 obtain ⟨qe,qx⟩:=tE_ok h7
 replace qe:r6=[]:=qe;subst qe;subst qx
 exact .cons (.same _) (.cons e1 (.cons e2 (.cons e3 (.cons e4 (.cons e5 (.cons e6 (NilIL.nil)))))))
theorem decTwo_ok {r:List I}{x:Two} (h:decTwo r=some x):NilIL r (encTwo x):=by
 have h0:=h;unfold decTwo at h0;clear h
 obtain ⟨n0,r0,q0,h1⟩:=tI_bind h0
 replace q0:r=_:=q0;subst q0
 obtain ⟨n1,r1,q1,h2⟩:=tI_bind h1
 replace q1:r0=_:=q1;subst q1
 obtain ⟨n2,r2,q2,h3⟩:=tI_bind h2
 replace q2:r1=_:=q2;subst q2
 obtain ⟨n3,r3,q3,h4⟩:=tI_bind h3
 replace q3:r2=_:=q3;subst q3
 obtain ⟨qe,qx⟩:=tE_ok h4
 replace qe:r3=[]:=qe;subst qe;subst qx
 exact .cons (.same _) (.cons (.same _) (.cons (.same _) (.cons (.same _) (NilIL.nil))))
theorem decPair_ok {r:List I}{x:Pair} (h:decPair r=some x):NilIL r (encPair x):=by
 have h0:=h;unfold decPair at h0;clear h
 obtain ⟨n0,r0,q0,h1⟩:=tI_bind h0
 replace q0:r=_:=q0;subst q0
 obtain ⟨n1,r1,q1,h2⟩:=tI_bind h1
 replace q1:r0=_:=q1;subst q1
 obtain ⟨qe,qx⟩:=tE_ok h2
 replace qe:r1=[]:=qe;subst qe;subst qx
 exact .cons (.same _) (.cons (.same _) (NilIL.nil))
theorem decQuad_ok {r:List I}{x:Quad} (h:decQuad r=some x):NilIL r (encQuad x):=by
 have h0:=h;unfold decQuad at h0;clear h
 obtain ⟨n0,r0,q0,h1⟩:=tI_bind h0
 replace q0:r=_:=q0;subst q0
 obtain ⟨n1,r1,q1,h2⟩:=tI_bind h1
 replace q1:r0=_:=q1;subst q1
 obtain ⟨n2,r2,q2,h3⟩:=tI_bind h2
 replace q2:r1=_:=q2;subst q2
 obtain ⟨n3,r3,q3,h4⟩:=tI_bind h3
 replace q3:r2=_:=q3;subst q3
 obtain ⟨qe,qx⟩:=tE_ok h4
 replace qe:r3=[]:=qe;subst qe;subst qx
 exact .cons (.same _) (.cons (.same _) (.cons (.same _) (.cons (.same _) (NilIL.nil))))
theorem decFour_ok {r:List I}{x:Four} (h:decFour r=some x):NilIL r (encFour x):=by
 have h0:=h;unfold decFour at h0;clear h
 obtain ⟨n0,r0,q0,h1⟩:=tI_bind h0
 replace q0:r=_:=q0;subst q0
 obtain ⟨n1,r1,q1,h2⟩:=tI_bind h1
 replace q1:r0=_:=q1;subst q1
 obtain ⟨n2,r2,q2,h3⟩:=tI_bind h2
 replace q2:r1=_:=q2;subst q2
 obtain ⟨n3,r3,q3,h4⟩:=tI_bind h3
 replace q3:r2=_:=q3;subst q3
 obtain ⟨qe,qx⟩:=tE_ok h4
 replace qe:r3=[]:=qe;subst qe;subst qx
 exact .cons (.same _) (.cons (.same _) (.cons (.same _) (.cons (.same _) (NilIL.nil))))
theorem decSeed_ok {r:List I}{x:Seed} (h:decSeed r=some x):NilIL r (encSeed x):=by
 have h0:=h;unfold decSeed at h0;clear h
 obtain ⟨n0,r0,q0,h1⟩:=tI_bind h0
 replace q0:r=_:=q0;subst q0
 obtain ⟨qe,qx⟩:=tE_ok h1
 replace qe:r0=[]:=qe;subst qe;subst qx
 exact .cons (.same _) (NilIL.nil)
theorem decC_ok:∀ (t:T) {r:List I}{x:den t},decC t r=some x→NilIL r (encC t x)
 |.int k,r,x,h=>by
  obtain ⟨n,r2,q,h2⟩:=tI_bind (show (tI k r).bind _=_ from h)
  obtain ⟨qe,qx⟩:=tE_ok h2
  replace qe:r2=[]:=qe
  subst q;subst qe;subst qx;exact .cons (.same _) .nil
 |.bool,r,x,h=>by
  obtain ⟨n,r2,q,h2⟩:=tB_bind (show (tB r).bind _=_ from h)
  obtain ⟨qe,qx⟩:=tE_ok h2
  replace qe:r2=[]:=qe
  subst q;subst qe;subst qx;exact .cons (.same _) .nil
 |.str,r,x,h=>by
  obtain ⟨n,r2,q,h2⟩:=tS_bind (show (tS r).bind _=_ from h)
  obtain ⟨qe,qx⟩:=tE_ok h2
  replace qe:r2=[]:=qe
  subst q;subst qe;subst qx;exact .cons (.same _) .nil
 |.sl t,r,x,h=>by
  obtain ⟨d,l,r2,q,e,h2⟩:=tL_bind (show (tL t r).bind _=_ from h)
  obtain ⟨qe,qx⟩:=tE_ok h2
  replace qe:r2=[]:=qe
  subst q;subst qe;subst qx;exact .cons e .nil
 |.ptr t,r,x,h=>by rw[tP_ok (fun h=>decC_ok t h) (show tP (decC t) r=some x from h)];exact .cons (.same _) .nil
 |.clov t,r,x,h=>by rw[tCv_ok (fun h=>decC_ok t h) (show tCv (decC t) (encC t) r=some x from h)];exact .cons (.same _) .nil
 |.clo f t,r,x,h=>by rw[tC_ok (fun h=>decC_ok t h) (show tC f (decC t) r=some x from h)];exact .cons (.same _) .nil
 |.clo0 f,r,x,h=>by rw[tC0_ok (show tC0 f r=some x from h)];exact .cons (.same _) .nil
 |.err,r,x,h=>by rw[tEr_ok (show tEr r=some x from h)];exact .cons (.same _) .nil
 |.clo3 f t u v,r,x,h=>by rw[tC3_ok (fun h=>decC_ok t h) (fun h=>decC_ok u h) (fun h=>decC_ok v h) (show tC3 f (decC t) (decC u) (decC v) r=some x from h)];exact .cons (.same _) .nil
 |.clo2 f t u,r,x,h=>by rw[tC2_ok (fun h=>decC_ok t h) (fun h=>decC_ok u h) (show tC2 f (decC t) (decC u) r=some x from h)];exact .cons (.same _) .nil
 |.mfn f t,r,x,h=>by rw[tM_ok (fun h=>decC_ok t h) (show tM f (decC t) r=some x from h)];exact .cons (.same _) .nil
 |.Span,r,x,h=>decSpan_ok h
 |.Three,r,x,h=>decThree_ok h
 |.Rech,r,x,h=>decReach_ok h
 |.Survey,r,x,h=>decSurvey_ok h
 |.Look,r,x,h=>decLook_ok h
 |.Mrk,r,x,h=>decMark_ok h
 |.Closure,r,x,h=>decClosure_ok h
 |.Share,r,x,h=>decShare_ok h
 |.Plate,r,x,h=>decPlate_ok h
 |.Account,r,x,h=>decAccount_ok h
 |.Mov,r,x,h=>decMove_ok h
 |.Book,r,x,h=>decBook_ok h
 |.Path,r,x,h=>decPath_ok h
 |.Post,r,x,h=>decPost_ok h
 |.Chill,r,x,h=>decChill_ok h
 |.Rescue,r,x,h=>decRescue_ok h
 |.Rules,r,x,h=>decRules_ok h
 |.Turn,r,x,h=>decTurn_ok h
 |.Driver,r,x,h=>decDriver_ok h
 |.Scale,r,x,h=>decScale_ok h
 |.Allow,r,x,h=>decAllow_ok h
 |.Region,r,x,h=>decRegion_ok h
 |.Hold,r,x,h=>decHold_ok h
 |.Truck,r,x,h=>decTruck_ok h
 |.Convoy,r,x,h=>decConvoy_ok h
 |.Rolling,r,x,h=>decRolling_ok h
 |.Desk,r,x,h=>decDesk_ok h
 |.Disp,r,x,h=>decDisp_ok h
 |.Ord1,r,x,h=>decOrd1_ok h
 |.Grnd,r,x,h=>decGrnd_ok h
 |.Shift,r,x,h=>decShift_ok h
 |.Meeting,r,x,h=>decMeeting_ok h
 |.Nearness,r,x,h=>decNearness_ok h
 |.Ride,r,x,h=>decRide_ok h
 |.Track,r,x,h=>decTrack_ok h
 |.Lanes,r,x,h=>decLanes_ok h
 |.Side,r,x,h=>decSide_ok h
 |.Scene,r,x,h=>decScene_ok h
 |.Watch,r,x,h=>decWatch_ok h
 |.Two,r,x,h=>decTwo_ok h
 |.Pair,r,x,h=>decPair_ok h
 |.Quad,r,x,h=>decQuad_ok h
 |.Four,r,x,h=>decFour_ok h
 |.Seed,r,x,h=>decSeed_ok h
mutual
def I.toD (h:Nat→Nat):I→D
 |.int k n=>.int k n
 |.bool b=>.bool b
 |.str s=>.str s
 |.agg l=>.agg (I.toDL h l)
 |.tup l=>.tup (I.toDL h l)
 |.sl t l=>slD t l
 |.nsl t l=>slN t l
 |.nil=>.nil
 |.rp l o=>.rp (I.toDL h l) o
 |.bx s g o=>.bx s (h s+g) o
 |.mb s g T=>.mb s (h s+g) T
 |.os s g=>.os s (h s+g)
 |.op s g z i o=>.op s (h s+g) z i o
 |.ow s g z a m=>.ow s (h s+g) z a m
 |.fn f c=>.fn f (I.toDL h c)
 |.yl l=>.yl (h l)
 |.mf f c=>.mf f (I.toDL h c)
 |.one=>.one
 |.lk c=>.lk c
 |.er b=>.lk (ofB b)
 |.undef=>.undef
def I.toDL (h:Nat→Nat):List I→List D
 |[]=>[]
 |d::l=>d.toD h::I.toDL h l
end
theorem toDL_enc (h:Nat→Nat):∀ (t:T) (x:den t),I.toDL h (encC t x)=encD t x:=by
 intro t
 induction t with
 |ptr t ih=>intro x;show [D.rp (I.toDL h (encC t x)) 0]=_;rw[ih];rfl
 |Driver =>
  intro x
  obtain ⟨a,b,c⟩:=x
  cases c<;>rfl
 |Region =>
  intro x
  obtain ⟨_,_,_,_,_,⟨_,m⟩,⟨_,q,_,_,_⟩,_,_,_,_⟩:=x
  cases m<;>cases q<;>rfl
 |clov t ih=>intro x;show [D.fn x.1 [D.rp (I.toDL h (encC t x.2)) 0]]=_;rw[ih];rfl
 |clo f t ih=>intro x;show [D.fn f [D.rp (I.toDL h (encC t x)) 0]]=_;rw[ih];rfl
 |clo3 f t u v ih1 ih2 ih3=>intro x;show [D.fn f [D.rp (I.toDL h (encC t x.1)) 0,D.rp (I.toDL h (encC u x.2.1)) 0,D.rp (I.toDL h (encC v x.2.2)) 0]]=_;rw[ih1,ih2,ih3];rfl
 |clo2 f t u ih1 ih2=>intro x;show [D.fn f [D.rp (I.toDL h (encC t x.1)) 0,D.rp (I.toDL h (encC u x.2)) 0]]=_;rw[ih1,ih2];rfl
 |mfn f t ih=>intro x;show [D.mf f [D.agg (I.toDL h (encC t x))]]=_;rw[ih];rfl
 |_=>intro x;rfl
theorem pureSpan (x:Span):PureL (encDSpan x):=PureL.cons (.int _ _) (PureL.cons (.int _ _) (PureL.nil))
theorem pureThree (x:Three):PureL (encDThree x):=PureL.cons (.int _ _) (PureL.cons (.int _ _) (PureL.cons (.int _ _) (PureL.nil)))
theorem pureRech (x:Rech):PureL (encDRech x):=PureL.cons (.int _ _) (PureL.cons (.int _ _) (PureL.cons (.int _ _) (PureL.cons (.int _ _) (PureL.cons (.int _ _) (PureL.nil)))))
theorem pureSurvey (x:Survey):PureL (encDSurvey x):=PureL.cons (.sl _ _ _ fun i _ d hd=>pureRech _ d hd) (PureL.cons (.int _ _) (PureL.cons (.int _ _) (PureL.cons (.int _ _) (PureL.nil))))
theorem pureLook (x:Look):PureL (encDLook x):=PureL.cons (.int _ _) (PureL.cons (.int _ _) (PureL.cons (.int _ _) (PureL.cons (.int _ _) (PureL.cons (.int _ _) (PureL.nil)))))
theorem pureMrk (x:Mrk):PureL (encDMrk x):=PureL.cons (.int _ _) (PureL.cons (.int _ _) (PureL.cons (.int _ _) (PureL.cons (.int _ _) (PureL.cons (.int _ _) (PureL.nil)))))
theorem pureClosure (x:Closure):PureL (encDClosure x):=PureL.cons (.int _ _) (PureL.cons (.int _ _) (PureL.cons (.int _ _) (PureL.nil)))
theorem pureShare (x:Share):PureL (encDShare x):=PureL.cons (.int _ _) (PureL.cons (.int _ _) (PureL.nil))
theorem purePlate (x:Plate):PureL (encDPlate x):=PureL.cons (.int _ _) (PureL.cons (.int _ _) (PureL.cons (.sl _ _ _ fun i _ d hd=>pureShare _ d hd) (PureL.cons (.sl _ _ _ fun i _ d hd=>pureShare _ d hd) (PureL.cons (.int _ _) (PureL.cons (.int _ _) (PureL.cons (.int _ _) (PureL.cons (.int _ _) (PureL.cons (.int _ _) (PureL.cons (.int _ _) (PureL.cons (.int _ _) (PureL.nil)))))))))))
theorem pureAccount (x:Account):PureL (encDAccount x):=PureL.cons (.str _) (PureL.cons (.int _ _) (PureL.cons (.int _ _) (PureL.cons (.int _ _) (PureL.cons (.int _ _) (PureL.cons (.int _ _) (PureL.nil))))))
theorem pureMov (x:Mov):PureL (encDMov x):=PureL.cons (.int _ _) (PureL.cons (.int _ _) (PureL.cons (.int _ _) (PureL.cons (.int _ _) (PureL.nil))))
theorem pureBook (x:Book):PureL (encDBook x):=PureL.cons (.sl _ _ _ fun i _ d hd=>pureAccount _ d hd) (PureL.cons (.sl _ _ _ fun i _ d hd=>pureMov _ d hd) (PureL.nil))
theorem purePath (x:Path):PureL (encDPath x):=PureL.cons (.int _ _) (PureL.cons (.int _ _) (PureL.cons (.int _ _) (PureL.cons (.int _ _) (PureL.cons (.int _ _) (PureL.nil)))))
theorem purePost (x:Post):PureL (encDPost x):=PureL.cons (.int _ _) (PureL.cons (.int _ _) (PureL.cons (.int _ _) (PureL.cons (.int _ _) (PureL.cons (.int _ _) (PureL.cons (.int _ _) (PureL.cons (.sl _ _ _ fun i _ d hd=>pureSpan _ d hd) (PureL.nil)))))))
theorem pureChill (x:Chill):PureL (encDChill x):=PureL.cons (.int _ _) (PureL.cons (.int _ _) (PureL.cons (.int _ _) (PureL.nil)))
theorem pureRescue (x:Rescue):PureL (encDRescue x):=PureL.cons (.int _ _) (PureL.cons (.sl _ _ _ fun i _ d hd=>purePath _ d hd) (PureL.cons (.sl _ _ _ fun i _ d hd=>purePost _ d hd) (PureL.cons (.sl _ _ _ fun i _ d hd=>pureSpan _ d hd) (PureL.cons (.sl _ _ _ fun i _ d hd=>pureChill _ d hd) (PureL.nil)))))
theorem pureRules (x:Rules):PureL (encDRules x):=PureL.cons (.int _ _) (PureL.cons (.int _ _) (PureL.cons (.int _ _) (PureL.cons (.int _ _) (PureL.nil))))
theorem pureTurn (x:Turn):PureL (encDTurn x):=PureL.cons (.int _ _) (PureL.cons (.int _ _) (PureL.cons (.int _ _) (PureL.cons (.int _ _) (PureL.nil))))
theorem pureDriver (x:Driver):PureL (encDDriver x):=PureL.cons (.str _) (PureL.cons (.int _ _) (PureL.cons (by
 obtain ⟨_,_,c⟩:=x
 cases c
 ·exact .nil
 ·exact .sl _ _ _ fun i _ d hd=>pureTurn _ d hd) (PureL.nil)))
theorem pureScale (x:Scale):PureL (encDScale x):=PureL.cons (.int _ _) (PureL.cons (.int _ _) (PureL.nil))
theorem pureAllow (x:Allow):PureL (encDAllow x):=PureL.cons (.int _ _) (PureL.cons (.int _ _) (PureL.nil))
theorem nsM_pure (l:List Mov):Ab.Pure (nsM l):=by
 cases l
 ·exact .nil
 ·exact .sl _ _ _ fun i _ d hd=>pureMov _ d hd
theorem nsP_pure (l:List Path):Ab.Pure (nsP l):=by
 cases l
 ·exact .nil
 ·exact .sl _ _ _ fun i _ d hd=>purePath _ d hd
theorem pureRegion (x:Region):PureL (encDRegion x):=PureL.cons (.sl _ _ _ fun i _ d hd=>pureRech _ d hd) (PureL.cons (.int _ _) (PureL.cons (.int _ _) (PureL.cons (.int _ _) (PureL.cons (.int _ _) (PureL.cons (.int _ _) (PureL.cons (.sl _ _ _ fun i _ d hd=>pureShare _ d hd) (PureL.cons (.sl _ _ _ fun i _ d hd=>pureShare _ d hd) (PureL.cons (.int _ _) (PureL.cons (.int _ _) (PureL.cons (.int _ _) (PureL.cons (.int _ _) (PureL.cons (.int _ _) (PureL.cons (.int _ _) (PureL.cons (.int _ _) (PureL.cons (.int _ _) (PureL.cons (.int _ _) (PureL.cons (.int _ _) (PureL.cons (.int _ _) (PureL.cons (.sl _ _ _ fun i _ d hd=>pureAccount _ d hd) (PureL.cons (nsM_pure _) (PureL.cons (.int _ _) (PureL.cons (nsP_pure _) (PureL.cons (.sl _ _ _ fun i _ d hd=>purePost _ d hd) (PureL.cons (.sl _ _ _ fun i _ d hd=>pureSpan _ d hd) (PureL.cons (.sl _ _ _ fun i _ d hd=>pureChill _ d hd) (PureL.cons (.int _ _) (PureL.cons (.int _ _) (PureL.cons (.int _ _) (PureL.cons (.int _ _) (PureL.cons (.sl _ _ _ fun i _ d hd=>pureDriver _ d hd) (PureL.cons (.int _ _) (PureL.cons (.int _ _) (PureL.cons (.int _ _) (PureL.cons (.int _ _) (PureL.nil)))))))))))))))))))))))))))))))))))
theorem pureHold (x:Hold):PureL (encDHold x):=PureL.cons (.int _ _) (PureL.cons (.int _ _) (PureL.nil))
theorem pureTruck (x:Truck):PureL (encDTruck x):=PureL.cons (.int _ _) (PureL.cons (.int _ _) (PureL.cons (.int _ _) (PureL.cons (.int _ _) (PureL.cons (.sl _ _ _ fun i _ d hd=>pureHold _ d hd) (PureL.nil)))))
theorem pureConvoy (x:Convoy):PureL (encDConvoy x):=PureL.cons (.int _ _) (PureL.cons (.int _ _) (PureL.cons (.int _ _) (PureL.cons (.sl _ _ _ fun i _ d hd=>pureTruck _ d hd) (PureL.nil))))
theorem pureRolling (x:Rolling):PureL (encDRolling x):=PureL.cons (.int _ _) (PureL.cons (.int _ _) (PureL.cons (.int _ _) (PureL.cons (.int _ _) (PureL.cons (.int _ _) (PureL.cons (.int _ _) (PureL.cons (.sl _ _ _ fun i _ d hd=>pureHold _ d hd) (PureL.nil)))))))
theorem pureDesk (x:Desk):PureL (encDDesk x):=PureL.cons (.int _ _) (PureL.cons (.sl _ _ _ fun i _ d hd=>pureLook _ d hd) (PureL.cons (.sl _ _ _ fun i _ d hd=>pureMrk _ d hd) (PureL.cons (.sl _ _ _ fun i _ d hd=>pureRolling _ d hd) (PureL.cons (.sl _ _ _ fun i _ d hd=>pureDriver _ d hd) (PureL.cons (.sl _ _ _ fun i _ d hd=>pureAccount _ d hd) (PureL.cons (.sl _ _ _ fun i _ d hd=>pureMov _ d hd) (PureL.nil)))))))
theorem pureDisp (x:Disp):PureL (encDDisp x):=PureL.cons (.int _ _) (PureL.cons (.sl _ _ _ fun i _ d hd=>pureLook _ d hd) (PureL.cons (.sl _ _ _ fun i _ d hd=>pureMrk _ d hd) (PureL.cons (.sl _ _ _ fun i _ d hd=>pureRolling _ d hd) (PureL.cons (.sl _ _ _ fun i _ d hd=>pureDriver _ d hd) (PureL.cons (.sl _ _ _ fun i _ d hd=>pureAccount _ d hd) (PureL.cons (.sl _ _ _ fun i _ d hd=>pureMov _ d hd) (PureL.cons (.sl _ _ _ fun i _ d hd=>pureRech _ d hd) (PureL.cons (.int _ _) (PureL.cons (.int _ _) (PureL.cons (.int _ _) (PureL.cons (.int _ _) (PureL.cons (.int _ _) (PureL.cons (.sl _ _ _ fun i _ d hd=>pureShare _ d hd) (PureL.cons (.sl _ _ _ fun i _ d hd=>pureShare _ d hd) (PureL.cons (.int _ _) (PureL.cons (.int _ _) (PureL.cons (.int _ _) (PureL.cons (.int _ _) (PureL.cons (.int _ _) (PureL.cons (.int _ _) (PureL.cons (.int _ _) (PureL.cons (.int _ _) (PureL.cons (.int _ _) (PureL.cons (.int _ _) (PureL.cons (.int _ _) (PureL.cons (.sl _ _ _ fun i _ d hd=>pureAccount _ d hd) (PureL.cons (.sl _ _ _ fun i _ d hd=>pureMov _ d hd) (PureL.cons (.int _ _) (PureL.cons (.sl _ _ _ fun i _ d hd=>purePath _ d hd) (PureL.cons (.sl _ _ _ fun i _ d hd=>purePost _ d hd) (PureL.cons (.sl _ _ _ fun i _ d hd=>pureSpan _ d hd) (PureL.cons (.sl _ _ _ fun i _ d hd=>pureChill _ d hd) (PureL.cons (.int _ _) (PureL.cons (.int _ _) (PureL.cons (.int _ _) (PureL.cons (.int _ _) (PureL.cons (.sl _ _ _ fun i _ d hd=>pureDriver _ d hd) (PureL.cons (.int _ _) (PureL.cons (.int _ _) (PureL.cons (.int _ _) (PureL.cons (.int _ _) (PureL.nil))))))))))))))))))))))))))))))))))))))))))
theorem pureOrd1 (x:Ord1):PureL (encDOrd1 x):=PureL.cons (.str _) (PureL.cons (.str _) (PureL.cons (.str _) (PureL.cons (.sl _ _ _ fun i _ d hd=>(fun y=>PureL.cons (.int _ _) PureL.nil) _ d hd) (PureL.nil))))
theorem pureGrnd (x:Grnd):PureL (encDGrnd x):=PureL.cons (.sl _ _ _ fun i _ d hd=>pureRech _ d hd) (PureL.cons (.int _ _) (PureL.cons (.int _ _) (PureL.cons (.int _ _) (PureL.cons (.sl _ _ _ fun i _ d hd=>(fun y=>PureL.cons (.int _ _) PureL.nil) _ d hd) (PureL.cons (.sl _ _ _ fun i _ d hd=>pureRech _ d hd) (PureL.nil))))))
theorem pureShift (x:Shift):PureL (encDShift x):=PureL.cons (.str _) (PureL.cons (.int _ _) (PureL.cons (.sl _ _ _ fun i _ d hd=>pureTurn _ d hd) (PureL.cons (.int _ _) (PureL.cons (.int _ _) (PureL.cons (.int _ _) (PureL.cons (.int _ _) (PureL.nil)))))))
theorem pureMeeting (x:Meeting):PureL (encDMeeting x):=PureL.cons (.int _ _) (PureL.cons (.int _ _) (PureL.cons (.int _ _) (PureL.cons (.bool _) (PureL.cons (.bool _) (PureL.cons (.int _ _) (PureL.cons (.int _ _) (PureL.nil)))))))
theorem pureNearness (x:Nearness):PureL (encDNearness x):=PureL.cons (.int _ _) (PureL.cons (.int _ _) (PureL.nil))
theorem pureRide (x:Ride):PureL (encDRide x):=PureL.cons (.int _ _) (PureL.cons (.int _ _) (PureL.cons (.int _ _) (PureL.cons (.int _ _) (PureL.cons (.sl _ _ _ fun i _ d hd=>pureHold _ d hd) (PureL.cons (.int _ _) (PureL.nil))))))
theorem pureTrack (x:Track):PureL (encDTrack x):=PureL.cons (.int _ _) (PureL.cons (.int _ _) (PureL.cons (.int _ _) (PureL.cons (.int _ _) (PureL.cons (.sl _ _ _ fun i _ d hd=>pureHold _ d hd) (PureL.cons (.int _ _) (PureL.cons (.sl _ _ _ fun i _ d hd=>pureSpan _ d hd) (PureL.nil)))))))
theorem pureLanes (x:Lanes):PureL (encDLanes x):=PureL.cons (.int _ _) (PureL.cons (.int _ _) (PureL.cons (.int _ _) (PureL.cons (.int _ _) (PureL.cons (.sl _ _ _ fun i _ d hd=>pureHold _ d hd) (PureL.cons (.int _ _) (PureL.cons (.sl _ _ _ fun i _ d hd=>pureSpan _ d hd) (PureL.cons (.int _ _) (PureL.cons (.int _ _) (PureL.cons (.int _ _) (PureL.cons (.int _ _) (PureL.cons (.sl _ _ _ fun i _ d hd=>pureHold _ d hd) (PureL.cons (.int _ _) (PureL.cons (.sl _ _ _ fun i _ d hd=>pureSpan _ d hd) (PureL.nil))))))))))))))
theorem pureSide (x:Side):PureL (encDSide x):=PureL.cons (.bool _) (PureL.nil)
theorem pureScene (x:Scene):PureL (encDScene x):=PureL.cons (.bool _) (PureL.cons (.int _ _) (PureL.cons (.int _ _) (PureL.cons (.sl _ _ _ fun i _ d hd=>pureShare _ d hd) (PureL.cons (.sl _ _ _ fun i _ d hd=>pureShare _ d hd) (PureL.cons (.int _ _) (PureL.cons (.int _ _) (PureL.cons (.int _ _) (PureL.cons (.int _ _) (PureL.cons (.int _ _) (PureL.cons (.int _ _) (PureL.cons (.int _ _) (PureL.cons (.sl _ _ _ fun i _ d hd=>pureSpan _ d hd) (PureL.cons (.sl _ _ _ fun i _ d hd=>pureSpan _ d hd) (PureL.nil))))))))))))))
theorem pureWatch (x:Watch):PureL (encDWatch x):=PureL.cons (.int _ _) (PureL.cons (.sl _ _ _ fun i _ d hd=>purePath _ d hd) (PureL.cons (.sl _ _ _ fun i _ d hd=>purePost _ d hd) (PureL.cons (.sl _ _ _ fun i _ d hd=>pureSpan _ d hd) (PureL.cons (.sl _ _ _ fun i _ d hd=>pureChill _ d hd) (PureL.cons (.sl _ _ _ (by intro i hi d hd;simp only[List.mem_singleton]at hd;subst hd;exact(.sl _ _ _ fun i _ d hd=>pureSpan _ d hd))) (PureL.cons (.sl _ _ _ fun i _ d hd=>pureSpan _ d hd) (PureL.nil)))))))
theorem pureTwo (x:Two):PureL (encDTwo x):=PureL.cons (.int _ _) (PureL.cons (.int _ _) (PureL.cons (.int _ _) (PureL.cons (.int _ _) (PureL.nil))))
theorem purePair (x:Pair):PureL (encDPair x):=PureL.cons (.int _ _) (PureL.cons (.int _ _) (PureL.nil))
theorem pureQuad (x:Quad):PureL (encDQuad x):=PureL.cons (.int _ _) (PureL.cons (.int _ _) (PureL.cons (.int _ _) (PureL.cons (.int _ _) (PureL.nil))))
theorem pureFour (x:Four):PureL (encDFour x):=PureL.cons (.int _ _) (PureL.cons (.int _ _) (PureL.cons (.int _ _) (PureL.cons (.int _ _) (PureL.nil))))
theorem pureSeed (x:Seed):PureL (encDSeed x):=PureL.cons (.int _ _) (PureL.nil)
theorem encD_pure:∀ (t:T) (x:den t),PureL (encD t x)
 |.int k,x=>PureL.cons (.int _ _) PureL.nil
 |.bool,x=>PureL.cons (.bool _) PureL.nil
 |.str,x=>PureL.cons (.str _) PureL.nil
 |.sl t,x=>PureL.cons (.sl _ _ _ fun i _ d hd=>encD_pure t _ d hd) PureL.nil
 |.ptr t,x=>PureL.cons (.rp _ _ (encD_pure t x)) PureL.nil
 |.clo f t,x=>PureL.cons (.fn _ _ (PureL.cons (.rp _ _ (encD_pure t x)) PureL.nil)) PureL.nil
 |.clov t,x=>PureL.cons (.fn _ _ (PureL.cons (.rp _ _ (encD_pure t x.2)) PureL.nil)) PureL.nil
 |.clo0 f,x=>PureL.cons (.fn _ _ PureL.nil) PureL.nil
 |.err,x=>PureL.cons (.lk _) PureL.nil
 |.clo3 f t u v,x=>PureL.cons (.fn _ _ (PureL.cons (.rp _ _ (encD_pure t x.1)) (PureL.cons (.rp _ _ (encD_pure u x.2.1)) (PureL.cons (.rp _ _ (encD_pure v x.2.2)) PureL.nil)))) PureL.nil
 |.clo2 f t u,x=>PureL.cons (.fn _ _ (PureL.cons (.rp _ _ (encD_pure t x.1)) (PureL.cons (.rp _ _ (encD_pure u x.2)) PureL.nil))) PureL.nil
 |.mfn f t,x=>PureL.cons (.mf _ _ (PureL.cons (.agg _ (encD_pure t x)) PureL.nil)) PureL.nil
 |.Span,x=>pureSpan x
 |.Three,x=>pureThree x
 |.Rech,x=>pureRech x
 |.Survey,x=>pureSurvey x
 |.Look,x=>pureLook x
 |.Mrk,x=>pureMrk x
 |.Closure,x=>pureClosure x
 |.Share,x=>pureShare x
 |.Plate,x=>purePlate x
 |.Account,x=>pureAccount x
 |.Mov,x=>pureMov x
 |.Book,x=>pureBook x
 |.Path,x=>purePath x
 |.Post,x=>purePost x
 |.Chill,x=>pureChill x
 |.Rescue,x=>pureRescue x
 |.Rules,x=>pureRules x
 |.Turn,x=>pureTurn x
 |.Driver,x=>pureDriver x
 |.Scale,x=>pureScale x
 |.Allow,x=>pureAllow x
 |.Region,x=>pureRegion x
 |.Hold,x=>pureHold x
 |.Truck,x=>pureTruck x
 |.Convoy,x=>pureConvoy x
 |.Rolling,x=>pureRolling x
 |.Desk,x=>pureDesk x
 |.Disp,x=>pureDisp x
 |.Ord1,x=>pureOrd1 x
 |.Grnd,x=>pureGrnd x
 |.Shift,x=>pureShift x
 |.Meeting,x=>pureMeeting x
 |.Nearness,x=>pureNearness x
 |.Ride,x=>pureRide x
 |.Track,x=>pureTrack x
 |.Lanes,x=>pureLanes x
 |.Side,x=>pureSide x
 |.Scene,x=>pureScene x
 |.Watch,x=>pureWatch x
 |.Two,x=>pureTwo x
 |.Pair,x=>purePair x
 |.Quad,x=>pureQuad x
 |.Four,x=>pureFour x
 |.Seed,x=>pureSeed x
end Go.Ab
