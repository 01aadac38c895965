/- Walks by computing: what each function of the program that the laws reach gives for what it gets, as plain Lean, and that it is so; without a condition but those that stand in each theorem. -/
import Derived.Test.YtbhjjkekphpldaaGreatDoorW1
import Derived.Test.YtbhjjkekphpldaaGreatDoorW2
import Derived.Test.YtbhjjkekphpldaaGreatDoorW3
import Derived.Test.YtbhjjkekphpldaaGreatDoorW4
set_option linter.all false
namespace Go.Ab
open Go Go.RowKit
set_option linter.all false
set_option maxHeartbeats 1000000
noncomputable section
section
variable {X:Ctx}{o:Oper}{T:St}{ty:TypeId}{q q2:TRow}
theorem n_app0 {x y:Operand}{z m t:Nat}{E:TypeId}{f:Nat→List D}{ts:Array TypeId} (ho:o.op=.call { callee:=.builtin .append,args:=#[x,y],argTypes:=ts }) (hts:ts=#[ty,ty]) (hd:o.dst=some t)
  (hx:T.ev X x=.nil) (hy:T.ev X y=.sl z m f)
  (hr:nth X.Z.tab ty=some q) (hk:Nat.beq q.k 3=true) (hE:q.el=E) (hq:nth X.Z.tab E=some q2) (hq9:Nat.beq q2.k 9=false) (hz:q2.sz=z) (hzs:Nat.beq q2.zs.length z=true) (hz0:Nat.beq z 0=false)
  (hb:m * q2.bytes≤140737488355328) (hm:m≤140737488355328) :
  NOp X o T (T.owned t t (.arr E z m f)):=fun κ sv a w hs=>by
 subst hts
 have hokr:=X.Z.tabOk _ _ hr (by intro e;rw[e]at hk;cases hk)
 have hokq:=X.Z.tabOk _ _ hq (by intro e;rw[e]at hq9;cases hq9)
 obtain ⟨iq,dq,hiq,hdq,hsq,hbq,⟨zv,hzv,hzf⟩,_⟩:=row_info hokq
 have hu:=slice_row hokr hk
 rw[hE]at hu
 have hown:ownsAt w (X.base t) E z (.slice none 0 0) 0 []:=ownsAt_nil _ _ _ _
 have hxe:a.eval x=.slice none 0 0:=by
  have hxv:=hs.ev x
  rw[hx]at hxv
  generalize a.eval x=v at hxv
  cases hxv;rfl
 have hyv:=hs.ev y
 rw[hy]at hyv
 have hzl:zv.cells.size=z:=by have:=zr_len hzf;have h2:=Nat.eq_of_beq_eq_true hzs;simp at this;omega
 have hz1:0<z:=by
  cases z with
  |zero=>cases hz0
  |succ z=>omega
 have hle:∀ pv,Le κ κ T.γ (upd T.γ t (T.γ t+1)) sv (upd sv t pv):=le_renew κ T.γ sv t
 rw[hd]
 have bl:∀ {w':World},w.grownBy w' (Value.slice none 0 0).ownBlock→Below w.heap.size w w':=fun hgr=>⟨hgr.os,hgr.tape,hgr.output,hgr.size,fun k hk=>hgr.block k hk (by simp[Value.ownBlock])⟩
 generalize hye:a.eval y=yv at hyv
 cases hyv with
 |sl0 =>
  have hrun:=run_append_none (P:=X.Z.P) (w:=w) (X.base t) ty o.type E iq z hu hiq (.slice none 0 0) 0 [] hown
  refine ⟨.slice none 0 0,w,κ,_,.inl ?_,sim_owned hs t t (pv:=.slice none 0 0) rfl (below_grown (Below.refl _ _) _) (fun b hb=>by cases hb) ?_⟩
  ·simp[execOp,ho,resolve,invoke,builtin,hxe,hye,hrun]
  ·exact⟨[],by rw[upd_same];exact hown,fun i hi=>by omega,fun i hi=>by omega,fun i hi=>by omega⟩
 |slE _ _ ad cap =>
  obtain ⟨v',w',hrun,hown',hgr,hwh⟩:=run_append_where (P:=X.Z.P) (w:=w) (X.base t) ty o.type E iq zv z q2.bytes hu hiq hzv (by rw[hsq,hz]) (by rw[hbq]) hzl hz1 (.slice none 0 0) 0 [] hown ad 0 cap [] (by simp)
   (fun j v hj=>by simp at hj) (fun v hv=>by simp at hv) (by unfold maxLen;omega) (by simp) (hs.wld.baseS _)
  refine ⟨v',w',κ,_,.inl ?_,sim_owned hs t t (pv:=v') ?_ (below_grown (bl hgr) _) (fun b' hb'=>?_) ?_⟩
  ·simp[execOp,ho,resolve,invoke,builtin,hxe,hye,hrun]
  ·rcases hown'.2 with ⟨e,_⟩|⟨_,_,_,_,e,_⟩<;>rw[e]<;>rfl
  ·refine .inl ((hwh b' ?_).resolve_right (by simp[Value.ownBlock]))
   rcases hown'.2 with ⟨e,_⟩|⟨_,_,_,_,e,_⟩<;>(rw[e]at hb' ⊢;exact hb')
  ·refine ⟨_,by rw[upd_same];exact hown',fun i hi=>?_,fun i hi=>?_,fun i hi=>?_⟩<;>omega
 |sl _ _ _ b off cap u hmc hlz hac hul hκ =>
  have hulen:∀ i,i<m→(u i).length=z:=fun i hi=>by rw[(hul i hi).length,hlz i hi]
  have hnl:(((List.range m).map u).flatten).length=m * z:=by
   rw[flat_len _ (z:=z) (fun c hc=>by
    obtain ⟨k,hk,rfl⟩:=List.mem_map.1 hc
    exact hulen k (by simpa using hk))]
   simp
  have hcellat:∀ j v,(((List.range m).map u).flatten)[j]?=some v→∃ i k,i<m∧k<z∧j=i * z+k∧(u i)[k]?=some v:=by
   intro j v hj
   have hjl:=(List.getElem?_eq_some_iff.1 hj).1
   rw[hnl]at hjl
   have hk:j % z<z:=Nat.mod_lt _ hz1
   have hi:j / z<m:=(Nat.div_lt_iff_lt_mul hz1).2 hjl
   have e:j=j / z * z+j % z:=by rw[Nat.mul_comm];exact(Nat.div_add_mod j z).symm
   refine ⟨j / z,j % z,hi,hk,e,?_⟩
   rw[e,flat_at _ (z:=z) (fun c hc=>by
    obtain ⟨k,hk,rfl⟩:=List.mem_map.1 hc
    exact hulen k (by simpa using hk)) _ _ hk]at hj
   simpa[hi] using hj
  obtain ⟨v',w',hrun,hown',hgr,hwh⟩:=run_append_where (P:=X.Z.P) (w:=w) (X.base t) ty o.type E iq zv z q2.bytes hu hiq hzv (by rw[hsq,hz]) (by rw[hbq]) hzl hz1 (.slice none 0 0) 0 [] hown ⟨b,off,none⟩ m cap (((List.range m).map u).flatten) hnl
   (fun j v hj=>by
    obtain ⟨i,k,hi,hk,rfl,hv⟩:=hcellat j v hj
    rw[addr_add,← Nat.add_assoc]
    exact hs.wld.imm _ _ _ (hκ i k v hi hv))
   (fun v hv=>by
    obtain ⟨j,hj⟩:=List.getElem?_of_mem hv
    obtain ⟨i,k,hi,hk,rfl,hv⟩:=hcellat j v hj
    exact RepL.oneCells (hul i hi) (hac i hi) v (List.mem_of_getElem? hv))
   (by unfold maxLen;omega) (by rw[Nat.zero_add];exact hb) (hs.wld.baseS _)
  simp only[Nat.zero_add,List.nil_append]at hown'
  refine ⟨v',w',κ,_,.inl ?_,sim_owned hs t t (pv:=v') ?_ (below_grown (bl hgr) _) (fun b' hb'=>?_) ?_⟩
  ·simp[execOp,ho,resolve,invoke,builtin,hxe,hye,hrun]
  ·rcases hown'.2 with ⟨e,_⟩|⟨_,_,_,_,e,_⟩<;>rw[e]<;>rfl
  ·refine .inl ((hwh b' ?_).resolve_right (by simp[Value.ownBlock]))
   rcases hown'.2 with ⟨e,_⟩|⟨_,_,_,_,e,_⟩<;>(rw[e]at hb' ⊢;exact hb')
  ·refine ⟨_,by rw[upd_same];exact hown',fun i hi=>hlz i hi,fun i hi=>hac i hi,fun i hi=>?_⟩
   rw[flat_chunk u m hulen i hi]
   exact(hul i hi).mono (hle _)
end
section
variable {R:Type}{X:Ctx}{Z:ISeat}{nt:Nat}{S:IS}{o:Oper}{r:R}{k:Ef→Option R}{t:Nat}
def opdEq:Operand→Operand→Bool
 |.tmp a,.tmp b=>Nat.beq a b
 |.const (.int k m),.const (.int k' n)=>decide (k=k')&&decide (m=n)
 |_,_=>false
theorem opdEq_eq {x y:Operand} (h:opdEq x y=true):x=y:=by
 unfold opdEq at h
 split at h
 ·rw[Nat.eq_of_beq_eq_true h]
 ·simp only[Bool.and_eq_true,decide_eq_true_eq]at h
  rw[h.1,h.2]
 ·cases h
def fitM (a:Int) (b:Nat):Bool:=decide (0≤a)&&decide (a * b≤281474976710656)&&decide (a≤281474976710656)
def fitA (n b:Nat):Bool:=decide (n * b≤140737488355328)&&decide (n≤140737488355328)
theorem wk_owned {T:St}{t s:Nat}{E z n:Nat}{f:Nat→List D} (f':Nat→List D) (h:∀ i,i<n→NilL (f i) (f' i)):Wk X (T.owned t s (.arr E z n f)) (T.owned t s (.arr E z n f')):=by
 have:=wk_arrN (X:=X) (S:=T.owned t s (.arr E z n f)) s (E:=E) (z:=z) (n:=n) (f:=f) f' (upd_same _ _ _) h
 have e:(⟨(T.owned t s (.arr E z n f)).ρ,(T.owned t s (.arr E z n f)).γ,upd (T.owned t s (.arr E z n f)).σ s (.arr E z n f')⟩:St)=T.owned t s (.arr E z n f'):=by
  unfold St.owned
  congr 1
  funext j
  simp only[upd]
  cases Nat.beq j s<;>rfl
 rwa [e]at this
def opMk (Z:ISeat) (S:IS) (t ty:Nat) (x y:Operand) (k:Ef→Option R) (d:I):Option R:=chk (opdEq x y) (match d with
 |.int .i64 a=>rowOf Z ty fun q=>rowOf Z q.el fun q2=>chk (Nat.beq q.k 3) (match Z.ty q.el with
  |some e=>(match decC e (q2.zs.map zI) with
   |some v=>chk (fitM a q2.bytes) (k (ownE S t t (.arr q.el e (List.replicate a.toNat v))))
   |none=>none)
  |none=>none)
 |_=>none)
theorem opMk_ok (hX:At X Z nt) {ty:Nat}{x y:Operand} (ho:o.op=.makeSlice ty x y) (hd:o.dst=some t) (h:opMk Z S t ty x y k (S.ev Z nt x)=some r):∃ e,k e=some r∧EfOk X Z nt o S e:=by
 have mx:x∈o.op.operands.toList:=by rw[ho];simp[Op.operands]
 unfold opMk at h
 replace h:=chk_some h
 obtain ⟨he,h⟩:=h
 have he:=opdEq_eq he
 subst he
 split at h
 ·rename_i a hx
  obtain ⟨q,hq,h9,h⟩:=rowOf_ok h
  obtain ⟨q2,hq2,h92,h⟩:=rowOf_ok h
  obtain ⟨h3,h⟩:=chk_some h
  split at h
  ·rename_i e hty
   split at h
   ·rename_i v hv
    obtain ⟨hf,h⟩:=chk_some h
    simp only[fitM,Bool.and_eq_true,decide_eq_true_eq]at hf
    obtain ⟨_,z1,z2⟩:=Z.ty_ok _ _ _ hty hq2
    refine ⟨_,h,fun h T ha hg=>?_⟩
    rw[← owned_app (hg _ rfl)]
    have:=n_make ho hd (ha.ev mx hx) (ha.ev mx hx) hf.1.1 (by rw[hX.Z];exact hq) h3 rfl (by rw[hX.Z];exact hq2) h92 z1 (by rw[z2];exact Nat.beq_refl _) hf.1.2 hf.2
    refine OpOk.wk (opOk_n this) ?_
    simp only[IOwn.toOwn,List.length_replicate]
    refine wk_owned _ fun i hi=>?_
    rw[List.getD_eq_getElem?_getD,List.getElem?_replicate,if_pos hi,← zI_toDL h,← toDL_enc h]
    exact nilIL_rel h (decC_ok e hv)
   ·cases h
  ·cases h
 ·cases h
def decRs (e:T):List (List I)→Option (List (den e))
 |[]=>some []
 |c::l=>match decC e c with
  |some x=>(match decRs e l with|some xs=>some (x::xs)|none=>none)
  |none=>none
theorem decRs_ok {e:T}:∀ {cs:List (List I)}{xs:List (den e)},decRs e cs=some xs→xs.length=cs.length∧∀ (i:Nat) (x:den e),xs[i]?=some x→∃ c,cs[i]?=some c∧NilIL c (encC e x)
 |[],xs,h=>by simp[decRs]at h;subst h;exact⟨rfl,fun i x h=>by simp at h⟩
 |c::l,xs,h=>by
  unfold decRs at h
  split at h
  ·rename_i x hx
   split at h
   ·rename_i ys hy
    simp only[Option.some.injEq]at h
    subst h
    obtain ⟨h1,h2⟩:=decRs_ok hy
    refine ⟨by simp[h1],fun i y hi=>?_⟩
    cases i with
    |zero=>simp at hi;subst hi;exact⟨c,by simp,decC_ok e hx⟩
    |succ i=>simpa using h2 i y (by simpa using hi)
   ·cases h
  ·cases h
def cellsI (Z:ISeat) (nt:Nat) (S:IS):List Operand→List (List I)
 |[]=>[]
 |x::l=>(S.ev Z nt x).cells::cellsI Z nt S l
def okCI (z:Nat):List (List I)→Bool
 |[]=>true
 |c::l=>Nat.beq c.length z&&allC c&&okCI z l
theorem cells_map {h:Nat→Nat}{T:St} (ha:Ag X Z nt S h T o):∀ {l:List Operand},(∀ x∈l,x∈o.op.operands.toList)→evC X T l=(cellsI Z nt S l).map (I.toDL h)
 |[],_=>rfl
 |x::l,hm=>by
  have h1:=cells_map ha (l:=l) fun p hp=>hm p (List.mem_cons_of_mem _ hp)
  have h3:=ha.ev (hm x (List.mem_cons_self ..)) rfl
  simp only[evC,cellsI,List.map_cons,h1,h3,cells_toD]
theorem okC_map (h:Nat→Nat) (z:Nat):∀ l:List (List I),okC z (l.map (I.toDL h))=okCI z l
 |[]=>rfl
 |c::l=>by simp only[List.map_cons,okC,okCI,toDL_len,allC_toDL,okC_map h z l]
theorem nilL_len:∀ {l l':List D},NilL l l'→l'.length=l.length
 |[],[],_=>rfl
 |_::l,_::l',h=>by simp only[List.length_cons,nilL_len h.2]
theorem wk_slfN {X:Ctx}{S:St} (t:Nat) {z n:Nat}{f:Nat→List D} (f':Nat→List D) (h:S.ρ t=.sl z n f) (hf:∀ i,i<n→NilL (f i) (f' i)):Wk X S (S.set t (.sl z n f')):=fun κ sv a w hs=>by
 refine ⟨κ,sv,⟨hs.size,hs.defers,fun i hi=>?_,hs.wld.slots rfl rfl⟩⟩
 by_cases e:i=t
 ·subst e
  simp only[St.set,upd_same]
  have h1:=hs.slot i hi
  rw[h]at h1
  generalize a.tmps.getD i Go.undef=v at h1
  cases h1 with
  |sl _ _ _ b off cap u h1 h2 h5 h3 h4=>exact .sl z n f' b off cap u h1 (fun i hi=>by rw[nilL_len (hf i hi)];exact h2 i hi) (fun i hi=>nilL_cell (hf i hi) (h5 i hi)) (fun i hi=>nilL_rep (hf i hi) (h3 i hi)) h4
  |sl0=>exact .sl0 _ _
  |slE=>exact .slE _ _ _ _
 ·simp only[St.set,upd_ne _ _ _ _ e];exact hs.slot i hi
def opBs (Z:ISeat) (nt:Nat) (S:IS) (fz:List Nat) (t ty n:Nat) (ps:Array (Nat×Operand)) (k:Ef→Option R):Option R:=rowOf Z ty fun q=>rowOf Z q.el fun q2=>chk (Nat.beq q.k 3) (match Z.ty q.el with
 |some e=>bif Nat.beq n 0 then chk (Nat.beq ps.toList.length 0) (bif memN t fz then k (ownE S t t (.arr q.el e [])) else k (ownE S t t (.arr q.el e []))) else (match seqP 0 ps.toList with
  |some xs=>chk (Nat.beq xs.length n&&!(Nat.beq (sz e) 0)&&Nat.ble (n * sz e) 16777216&&okCI (sz e) (cellsI Z nt S xs)) (match decRs e (cellsI Z nt S xs) with
   |some l=>bif memN t fz then k (vE t (.sl e l)) else k (ownE S t t (.arr q.el e l))
   |none=>none)
  |none=>none)
 |none=>none)
theorem opBs_ok (hX:At X Z nt) {fz:List Nat}{ty n:Nat}{ps:Array (Nat×Operand)} (ho:o.op=.buildSlice ty n ps) (hd:o.dst=some t) (h:opBs Z nt S fz t ty n ps k=some r):∃ e,k e=some r∧EfOk X Z nt o S e:=by
 unfold opBs at h
 obtain ⟨q,hq,h9,h⟩:=rowOf_ok h
 obtain ⟨q2,hq2,h92,h⟩:=rowOf_ok h
 obtain ⟨h3,h⟩:=chk_some h
 have hq':nth X.Z.tab ty=some q:=by rw[hX.Z];exact hq
 have hq2':nth X.Z.tab q.el=some q2:=by rw[hX.Z];exact hq2
 split at h
 ·rename_i e hty
  obtain ⟨_,z1,z2⟩:=Z.ty_ok _ _ _ hty hq2
  cases hn:Nat.beq n 0 with
  |true =>
   rw[hn]at h
   have hn0:=Nat.eq_of_beq_eq_true hn
   subst hn0
   simp only[cond_true]at h
   obtain ⟨hp,h⟩:=chk_some h
   have hp:=arr_nil hp
   have h:k (ownE S t t (.arr q.el e []))=some r:=by
    cases hm:memN t fz<;>(rw[hm]at h;exact h)
   refine ⟨_,h,fun h T ha hg=>?_⟩
   rw[← owned_app (hg _ rfl)]
   exact opOk_n (n_bsl0 _ ho hd hp hq' h3 rfl hq2' h92 z1)
  |false =>
   rw[hn]at h
   simp only[cond_false]at h
   split at h
   ·rename_i xs hxs
    obtain ⟨hc,h⟩:=chk_some h
    simp only[Bool.and_eq_true,Bool.not_eq_true']at hc
    obtain ⟨⟨⟨c1,c2⟩,c3⟩,c4⟩:=hc
    have hmem:∀ x∈xs,x∈o.op.operands.toList:=by
     intro x hx
     rw[ho]
     have h1:=seqP_eq hxs
     simp only[Op.operands]
     rw[h1]
     simp only[List.map_map,List.mem_map,Function.comp_apply]
     obtain ⟨i,hi,rfl⟩:=List.getElem_of_mem hx
     exact⟨(xs[i],i),by rw[List.mk_mem_zipIdx_iff_getElem?];simp[hi],rfl⟩
    have hlen:n=xs.length:=(Nat.eq_of_beq_eq_true c1).symm
    have hcl:(cellsI Z nt S xs).length=xs.length:=by
     generalize xs=l
     induction l with
     |nil=>rfl
     |cons x l ih=>simp[cellsI,ih]
    split at h
    ·rename_i l hl
     obtain ⟨e1,e2⟩:=decRs_ok hl
     have hat:∀ (h:Nat→Nat) i,i<n→∃ c,nthD ((cellsI Z nt S xs).map (I.toDL h)) i=I.toDL h c∧(cellsI Z nt S xs)[i]?=some c∧NilIL c (encC e (l.getD i (dflt e))):=fun h i hi=>by
      have hil:i<l.length:=by omega
      obtain ⟨c,hc1,hc2⟩:=e2 i l[i] (List.getElem?_eq_getElem hil)
      refine ⟨c,?_,hc1,?_⟩
      ·simp[nthD,nth_eq,hc1]
      ·rw[List.getD_eq_getElem?_getD,List.getElem?_eq_getElem hil];exact hc2
     cases hm:memN t fz with
     |false =>
      rw[hm]at h
      refine ⟨_,h,fun h T ha hg=>?_⟩
      rw[← owned_app (hg _ rfl)]
      have hev:=cells_map ha hmem
      have:=n_bslo ho hd hxs c1 hq' h3 rfl hq2' h92 z1 c2 hn c3 hev (by rw[okC_map];exact c4)
      refine OpOk.wk (opOk_n this) ?_
      have hll:n=l.length:=by omega
      simp only[IOwn.toOwn]
      rw[← hll]
      refine wk_owned _ fun i hi=>?_
      obtain ⟨c,h1,_,h2⟩:=hat h i hi
      rw[h1,← toDL_enc h]
      exact nilIL_rel h h2
     |true =>
      rw[hm]at h
      refine ⟨_,h,fun h T ha hg=>?_⟩
      have hev:=cells_map ha hmem
      have:=n_bsl ho hd hxs c1 hq' h3 rfl hq2' h92 z1 c2 hn c3 hev (by rw[okC_map];exact c4)
      refine OpOk.wk (opOk_n this) ?_
      have hll:n=l.length:=by omega
      have hw:=wk_slfN (X:=X) (S:=T.set t (.sl (sz e) n (nthD ((cellsI Z nt S xs).map (I.toDL h))))) t (fun i=>encD e (l.getD i (dflt e))) (upd_same _ _ _) (fun i hi=>by
       obtain ⟨c,h1,h4,h2⟩:=hat h i hi
       rw[h1,← toDL_enc h];exact nilIL_rel h h2)
      have e3:(T.set t (.sl (sz e) n (nthD ((cellsI Z nt S xs).map (I.toDL h))))).set t (.sl (sz e) n (fun i=>encD e (l.getD i (dflt e))))=T.app (vE t (.sl e l)).wr ((vE t (.sl e l)).vl h):=by
       unfold St.set St.app vE Ef.wr Ef.vl
       simp only[Option.map_none,updO,I.toD,slD,hll]
       congr 1
       funext j
       simp only[upd]
       cases Nat.beq j t<;>rfl
      rw[e3]at hw
      exact hw
    ·cases h
   ·cases h
 ·cases h
def bytesI (b:ByteArray):List Int:=b.data.toList.map fun x=>(x.toNat:Int)
def isU8:List Zr→Bool
 |[.i .u8]=>true
 |_=>false
def opApS (Z:ISeat) (S:IS) (t:Nat) (ts:Array TypeId) (k:Ef→Option R) (d:I) (b:ByteArray):Option R:=match ts.toList with
 |[ty,ty']=>chk (Z.isS ty') (rowOf Z ty fun q=>rowOf Z q.el fun q2=>chk (Nat.beq q.k 3&&Nat.beq q2.sz 1&&Nat.beq q2.bytes 1&&isU8 q2.zs) (match d with
  |.os s g=>live S s g (match S.own s with
   |.arr E (.int .u8) l=>chk (Nat.beq q.el E&&decide (l.length+b.size≤140737488355328)) (k (ownE S t s (.arr E (.int .u8) (l++bytesI b))))
   |_=>none)
  |_=>none))
 |_=>none
theorem opApS_ok (hX:At X Z nt) {x y:Operand}{b:ByteArray}{ts:Array TypeId} (ho:o.op=.call { callee:=.builtin .append,args:=#[x,y],argTypes:=ts }) (hd:o.dst=some t) (hy:S.ev Z nt y=.str b) (h:opApS Z S t ts k (S.ev Z nt x) b=some r):∃ e,k e=some r∧EfOk X Z nt o S e:=by
 have mx:x∈o.op.operands.toList:=by rw[ho];simp[Op.operands,Call.operands]
 have my:y∈o.op.operands.toList:=by rw[ho];simp[Op.operands,Call.operands]
 have hl2:lvl o=2:=by simp[lvl,ho]
 have hl1:lvl o≠0:=by rw[hl2];simp
 unfold opApS at h
 split at h
 ·rename_i ty ty' hts
  obtain ⟨hS,h⟩:=chk_some h
  have hts:ts=#[ty,ty']:=by
   have:ts=ts.toList.toArray:=by simp
   rw[this,hts]
  obtain ⟨q,hq,h9,h⟩:=rowOf_ok h
  obtain ⟨q2,hq2,h92,h⟩:=rowOf_ok h
  obtain ⟨h3,h⟩:=chk_some h
  simp only[Bool.and_eq_true]at h3
  obtain ⟨⟨⟨h3,hz⟩,hb1⟩,hu8⟩:=h3
  have hq':nth X.Z.tab ty=some q:=by rw[hX.Z];exact hq
  have hq2':nth X.Z.tab q.el=some q2:=by rw[hX.Z];exact hq2
  have hzs:q2.zs=[.i .u8]:=by
   unfold isU8 at hu8
   split at hu8
   ·assumption
   ·cases hu8
  split at h
  ·rename_i s g hx
   replace h:=live_ok h
   obtain ⟨rfl,h⟩:=h
   split at h
   ·rename_i E l hσ
    obtain ⟨hc,h⟩:=chk_some h
    simp only[Bool.and_eq_true,decide_eq_true_eq]at hc
    have hE:=Nat.eq_of_beq_eq_true hc.1
    refine ⟨_,h,fun h T ha hg=>?_⟩
    rw[← owned_app (hg _ rfl)]
    have hq3:nth X.Z.tab E=some q2:=by rw[← hE];exact hq2'
    have hbl:(bytesI b).length=b.size:=by unfold bytesI;rw[List.length_map,Array.length_toList];rfl
    have:=n_appS (S:=T) ho hts hd (ha.ev mx hx) (ha.γ hl1 mx (pl_os hx)) ((ha.σ hl2 mx (pl_os hx)).trans (by rw[hσ];rfl)) (ha.ev my hy) hq' h3 hE (by rw[hX.Z];exact Z.isS_ok _ hS) hq3 h92 (Nat.eq_of_beq_eq_true hz) hzs (Nat.eq_of_beq_eq_true hb1) hc.2
     (f':=fun i=>encD (.int .u8) ((l++bytesI b).getD i 0)) (n':=(l++bytesI b).length) (by rw[List.length_append,hbl]) (fun i hi=>by
      simp only[List.getD_eq_getElem?_getD];rw[List.getElem?_append_left hi];rfl) (fun i hi=>by
      simp only[List.getD_eq_getElem?_getD]
      rw[List.getElem?_append_right (by omega),Nat.add_sub_cancel_left]
      have hi2:i<b.data.toList.length:=by rw[Array.length_toList];exact hi
      simp only[bytesI,List.getElem?_map,List.getElem?_eq_getElem hi2,Option.map_some,Option.getD_some]
      rfl)
    exact opOk_n this
   ·cases h
  ·cases h
 ·cases h
def opAp (Z:ISeat) (S:IS) (t:Nat) (ts:Array TypeId) (k:Ef→Option R) (d y:I):Option R:=match ts.toList with
 |[ty,ty']=>chk (Nat.beq ty ty') (rowOf Z ty fun q=>rowOf Z q.el fun q2=>chk (Nat.beq q.k 3) (match y with
  |.sl e' m=>(match d with
   |.os s g=>live S s g (match S.own s with
    |.arr E e l=>chk (Nat.beq q.el E&&Nat.beq q2.sz (sz e)&&Nat.beq q2.zs.length (sz e)&&!(Nat.beq (sz e) 0)) (match asL e e' m with
     |some m=>chk (fitA (l.length+m.length) q2.bytes) (k (ownE S t s (.arr E e (l++m))))
     |none=>none)
    |_=>none)
   |.nil=>chk (Nat.beq q2.sz (sz e')&&Nat.beq q2.zs.length (sz e')&&!(Nat.beq (sz e') 0)) (chk (fitA m.length q2.bytes) (k (ownE S t t (.arr q.el e' m))))
   |_=>none)
  |.ow s2 g2 z2 c m=>(match d with
   |.ow s g z c0 kk=>live S s g (match S.own s with
    |.arr E e l=>chk (Nat.beq s2 s&&Nat.beq g2 (S.gen s)&&Nat.beq z2 z&&Nat.beq z (sz e)&&Nat.beq c0 0&&Nat.beq q.el E&&Nat.beq q2.sz (sz e)&&Nat.beq q2.zs.length (sz e)&&!(Nat.beq (sz e) 0)) (chk (decide (kk≤l.length)&&decide (c+m≤l.length)&&decide (kk+m≤l.length)) (chk (fitA (kk+m) q2.bytes) (k (ownE S t s (.arr E e (l.take kk++(l.drop c).take m))))))
    |_=>none)
   |_=>none)
  |.os s2 g2=>live S s2 g2 (match S.own s2 with
   |.arr E2 e' m=>(match d with
    |.os s g=>live S s g (match S.own s with
     |.arr E e l=>chk (Nat.beq q.el E&&Nat.beq q2.sz (sz e)&&Nat.beq q2.zs.length (sz e)&&!(Nat.beq (sz e) 0)) (match asL e e' m with
      |some m=>chk (fitA (l.length+m.length) q2.bytes) (k (ownE S t s (.arr E e (l++m))))
      |none=>none)
     |_=>none)
    |.nil=>chk (Nat.beq q2.sz (sz e')&&Nat.beq q2.zs.length (sz e')&&!(Nat.beq (sz e') 0)) (chk (fitA m.length q2.bytes) (k (ownE S t t (.arr q.el e' m))))
    |_=>none)
   |_=>none)
  |_=>none))
 |_=>none
theorem opAp_ok (hX:At X Z nt) {x y:Operand}{ts:Array TypeId} (ho:o.op=.call { callee:=.builtin .append,args:=#[x,y],argTypes:=ts }) (hd:o.dst=some t) (h:opAp Z S t ts k (S.ev Z nt x) (S.ev Z nt y)=some r):∃ e,k e=some r∧EfOk X Z nt o S e:=by
 have mx:x∈o.op.operands.toList:=by rw[ho];simp[Op.operands,Call.operands]
 have my:y∈o.op.operands.toList:=by rw[ho];simp[Op.operands,Call.operands]
 have hl2:lvl o=2:=by simp[lvl,ho]
 have hl1:lvl o≠0:=by rw[hl2];simp
 unfold opAp at h
 split at h
 ·rename_i ty ty' hts
  replace h:=chk_some h
  obtain ⟨he,h⟩:=h
  have he:=Nat.eq_of_beq_eq_true he
  subst he
  have hts:ts=#[ty,ty]:=by
   have:ts=ts.toList.toArray:=by simp
   rw[this,hts]
  obtain ⟨q,hq,h9,h⟩:=rowOf_ok h
  obtain ⟨q2,hq2,h92,h⟩:=rowOf_ok h
  obtain ⟨h3,h⟩:=chk_some h
  have hq':nth X.Z.tab ty=some q:=by rw[hX.Z];exact hq
  have hq2':nth X.Z.tab q.el=some q2:=by rw[hX.Z];exact hq2
  split at h
  ·rename_i e' m hy
   split at h
   ·rename_i s g hx
    replace h:=live_ok h
    obtain ⟨rfl,h⟩:=h
    split at h
    ·rename_i E e l hσ
     obtain ⟨hc,h⟩:=chk_some h
     simp only[Bool.and_eq_true,Bool.not_eq_true']at hc
     obtain ⟨⟨⟨c1,c2⟩,c3⟩,c4⟩:=hc
     have hE:=Nat.eq_of_beq_eq_true c1
     split at h
     ·rename_i m' hm
      obtain ⟨hf,h⟩:=chk_some h
      simp only[fitA,Bool.and_eq_true,decide_eq_true_eq]at hf
      have hy':S.ev Z nt y=.sl e m':=by rw[hy];exact asL_eq hm
      refine ⟨_,h,fun h T ha hg=>?_⟩
      rw[← owned_app (hg _ rfl)]
      have:=n_app (S:=T) ho hts hd (ha.ev mx hx) (ha.γ hl1 mx (pl_os hx)) ((ha.σ hl2 mx (pl_os hx)).trans (by rw[hσ];rfl)) (ha.ev my hy') hq' h3 hE (by rw[← hE];exact hq2') h92 (Nat.eq_of_beq_eq_true c2) c3 c4 hf.1 hf.2
       (f':=fun i=>encD e ((l++m').getD i (dflt e))) (n':=(l++m').length) (by simp) (fun i hi=>by
        simp only[List.getD_eq_getElem?_getD];rw[List.getElem?_append_left hi]) (fun i hi=>by
        simp only[List.getD_eq_getElem?_getD];rw[List.getElem?_append_right (by omega),Nat.add_sub_cancel_left])
      exact opOk_n this
     ·cases h
    ·cases h
   ·rename_i hx
    obtain ⟨hc,h⟩:=chk_some h
    simp only[Bool.and_eq_true,Bool.not_eq_true']at hc
    obtain ⟨⟨c2,c3⟩,c4⟩:=hc
    obtain ⟨hf,h⟩:=chk_some h
    simp only[fitA,Bool.and_eq_true,decide_eq_true_eq]at hf
    refine ⟨_,h,fun h T ha hg=>?_⟩
    rw[← owned_app (hg _ rfl)]
    exact opOk_n (n_app0 ho hts hd (ha.ev mx hx) (ha.ev my hy) hq' h3 rfl hq2' h92 (Nat.eq_of_beq_eq_true c2) c3 c4 hf.1 hf.2)
   ·cases h
  ·rename_i s2 g2 z2 c m hy
   split at h
   ·rename_i s g z c0 kk hx
    replace h:=live_ok h
    obtain ⟨rfl,h⟩:=h
    split at h
    ·rename_i E e l hσ
     obtain ⟨hc,h7⟩:=chk_some h
     clear h
     simp only[Bool.and_eq_true,Bool.not_eq_true']at hc
     obtain ⟨⟨⟨⟨⟨⟨⟨⟨b1,b2⟩,b3⟩,b4⟩,b5⟩,c1⟩,c2⟩,c3⟩,c4⟩:=hc
     have b1:=Nat.eq_of_beq_eq_true b1
     have b2:=Nat.eq_of_beq_eq_true b2
     have b3:=Nat.eq_of_beq_eq_true b3
     have b4:=Nat.eq_of_beq_eq_true b4
     have b5:=Nat.eq_of_beq_eq_true b5
     subst b1 b2 b3 b4 b5
     have hE:=Nat.eq_of_beq_eq_true c1
     obtain ⟨hl,h8⟩:=chk_some h7
     simp only[Bool.and_eq_true,decide_eq_true_eq]at hl
     obtain ⟨⟨l1,l2⟩,l3⟩:=hl
     obtain ⟨hf,h5⟩:=chk_some h8
     simp only[fitA,Bool.and_eq_true,decide_eq_true_eq]at hf
     refine ⟨_,h5,fun h T ha hg=>?_⟩
     rw[← owned_app (hg _ rfl)]
     have pm:∀ {s g z c m:Nat}{x:Operand},S.ev Z nt x=.ow s g z c m→s∈plI (S.ev Z nt x):=fun hx=>by rw[hx];simp[plI]
     have:=n_appV (S:=T) ho hts hd (ha.ev mx hx) (ha.ev my hy) (ha.γ hl1 mx (pm hx)) ((ha.σ hl2 mx (pm hx)).trans (by rw[hσ];rfl)) l1 l2 l3 hq' h3 hE (by rw[← hE];exact hq2') h92 (Nat.eq_of_beq_eq_true c2) c3 c4 hf.1 hf.2
      (f':=fun i=>encD e ((l.take kk++(l.drop c).take m).getD i (dflt e))) (n':=(l.take kk++(l.drop c).take m).length) (by simp;omega) (fun i hi=>by
       simp only[List.getD_eq_getElem?_getD];rw[List.getElem?_append_left (by simp;omega),List.getElem?_take,if_pos hi]) (fun i hi=>by
       simp only[List.getD_eq_getElem?_getD];rw[List.getElem?_append_right (by simp;omega),List.length_take,Nat.min_eq_left l1,Nat.add_sub_cancel_left,List.getElem?_take,if_pos hi,List.getElem?_drop])
     exact opOk_n this
    ·cases h
   ·cases h
  ·rename_i s2 g2 hy
   replace h:=live_ok h
   obtain ⟨rfl,h⟩:=h
   split at h
   ·rename_i E2 e' m hσ2
    split at h
    ·rename_i s g hx
     replace h:=live_ok h
     obtain ⟨rfl,h⟩:=h
     split at h
     ·rename_i E e l hσ
      obtain ⟨hc,h⟩:=chk_some h
      simp only[Bool.and_eq_true,Bool.not_eq_true']at hc
      obtain ⟨⟨⟨c1,c2⟩,c3⟩,c4⟩:=hc
      have hE:=Nat.eq_of_beq_eq_true c1
      split at h
      ·rename_i m' hm
       have e2:=asL_eq hm
       simp only[I.sl.injEq]at e2
       obtain ⟨rfl,e2⟩:=e2
       have e2:=eq_of_heq e2
       subst e2
       obtain ⟨hf,h⟩:=chk_some h
       simp only[fitA,Bool.and_eq_true,decide_eq_true_eq]at hf
       refine ⟨_,h,fun h T ha hg=>?_⟩
       rw[← owned_app (hg _ rfl)]
       have:=n_appOO (S:=T) ho hts hd (.inl ⟨ha.ev mx hx,ha.γ hl1 mx (pl_os hx),(ha.σ hl2 mx (pl_os hx)).trans (by rw[hσ];rfl)⟩) (ha.ev my hy) (ha.γ hl1 my (pl_os hy)) ((ha.σ hl2 my (pl_os hy)).trans (by rw[hσ2];rfl)) hq' h3 hE (by rw[← hE];exact hq2') h92 (Nat.eq_of_beq_eq_true c2) c3 c4 hf.1 hf.2
        (f':=fun i=>encD e' ((l++m).getD i (dflt e'))) (n':=(l++m).length) (by simp) (fun i hi=>by
         simp only[List.getD_eq_getElem?_getD];rw[List.getElem?_append_left hi]) (fun i hi=>by
         simp only[List.getD_eq_getElem?_getD];rw[List.getElem?_append_right (by omega),Nat.add_sub_cancel_left])
       exact opOk_n this
      ·cases h
     ·cases h
    ·rename_i hx
     obtain ⟨hc,h⟩:=chk_some h
     simp only[Bool.and_eq_true,Bool.not_eq_true']at hc
     obtain ⟨⟨c2,c3⟩,c4⟩:=hc
     obtain ⟨hf,h⟩:=chk_some h
     simp only[fitA,Bool.and_eq_true,decide_eq_true_eq]at hf
     refine ⟨_,h,fun h T ha hg=>?_⟩
     rw[← owned_app (hg _ rfl)]
     have:=n_appOO (S:=T) (n:=0) (f:=fun _=>[]) (g:=0) ho hts hd (.inr ⟨ha.ev mx hx,rfl,rfl⟩) (ha.ev my hy) (ha.γ hl1 my (pl_os hy)) ((ha.σ hl2 my (pl_os hy)).trans (by rw[hσ2];rfl)) hq' h3 rfl hq2' h92 (Nat.eq_of_beq_eq_true c2) c3 c4 (by simpa using hf.1) (by simpa using hf.2)
      (f':=fun i=>encD e' (m.getD i (dflt e'))) (n':=m.length) (by simp) (fun i hi=>by omega) (fun i hi=>by rw[Nat.zero_add])
     exact opOk_n this
    ·cases h
   ·cases h
  ·cases h
 ·cases h
def subL {α:Type} (l:List α) (i j:Int):List α:=(l.take j.toNat).drop i.toNat
theorem subL_len {α:Type}{l:List α}{i j:Int} (h0:0≤i) (h1:i≤j) (h2:j≤l.length):(subL l i j).length=j.toNat - i.toNat:=by
 simp only[subL,List.length_drop,List.length_take];omega
theorem subL_get {α:Type}{l:List α}{i j:Int}{d:α}{k:Nat} (hk:k<j.toNat - i.toNat):(subL l i j).getD k d=l.getD (i.toNat+k) d:=by
 simp only[subL,List.getD_eq_getElem?_getD,List.getElem?_drop,List.getElem?_take]
 rw[if_pos (by omega)]
def bndI (Z:ISeat) (nt:Nat) (S:IS) (v:Option Operand) (d:Int) (k:Int→Option R):Option R:=match v with
 |none=>k d
 |some y=>(match S.ev Z nt y with|.int .i64 i=>k i|_=>none)
theorem bndI_ok {v:Option Operand}{d:Nat}{k:Int→Option R} (h:bndI Z nt S v d k=some r):∃ i:Int,k i=some r∧((v=none∧i=d)∨∃ y,v=some y∧S.ev Z nt y=.int .i64 i):=by
 unfold bndI at h
 split at h
 ·exact⟨_,h,.inl ⟨rfl,rfl⟩⟩
 ·rename_i y
  split at h
  ·rename_i i hy;exact⟨i,h,.inr ⟨y,rfl,hy⟩⟩
  ·cases h
def opSl (Z:ISeat) (nt:Nat) (S:IS) (fz:List Nat) (t ty:Nat) (lo hi:Option Operand) (k:Ef→Option R) (d:I):Option R:=rowOf Z ty fun q=>rowOf Z q.el fun q2=>chk (Nat.beq q.k 3) (match d with
 |.sl e l=>chk (Nat.beq q2.sz (sz e)) (bndI Z nt S lo (0:Nat) fun i=>bndI Z nt S hi l.length fun j=>chk (decide (0≤i)&&decide (i≤j)&&decide (j≤l.length)) (k (vE t (.sl e (subL l i j)))))
 |.os s g=>live S s g (match S.own s with
  |.arr E e l=>chk (Nat.beq q.el E&&Nat.beq q2.sz (sz e)) (bndI Z nt S lo (0:Nat) fun i=>bndI Z nt S hi l.length fun j=>chk (decide (0≤i)&&decide (i≤j)&&decide (j≤l.length)) (bif memN t fz then k (vE t (.ow s g (sz e) i.toNat (j.toNat - i.toNat))) else k (ownE S t s (.arr E e (subL l i j)))))
  |_=>none)
 |_=>none)
theorem bndd_of {h:Nat→Nat}{T:St} (ha:Ag X Z nt S h T o) {v:Option Operand}{i:Int}{d:Nat} (h0:0≤i) (hm:∀ y,v=some y→y∈o.op.operands.toList) (hv:(v=none∧i=d)∨∃ y,v=some y∧S.ev Z nt y=.int .i64 i):bndd X T v i.toNat d:=by
 rcases hv with ⟨rfl,rfl⟩|⟨y,rfl,hy⟩
 ·exact .inl ⟨rfl,by simp⟩
 ·exact .inr ⟨y,rfl,by rw[ha.ev (hm y rfl) hy,Int.toNat_of_nonneg h0];rfl⟩
def subS (s:ByteArray) (i j:Int):ByteArray:=subB s i.toNat j.toNat
def opSlS (Z:ISeat) (nt:Nat) (S:IS) (t ty:Nat) (lo hi:Option Operand) (k:Ef→Option R) (s:ByteArray):Option R:=chk (Z.isS ty) (bndI Z nt S lo (0:Nat) fun i=>bndI Z nt S hi s.size fun j=>chk (decide (0≤i)&&decide (i≤j)&&decide (j≤s.size)) (k (vE t (.str (subS s i j)))))
theorem opSlS_ok (hX:At X Z nt) {ty:Nat}{x:Operand}{lo hi:Option Operand}{s:ByteArray} (ho:o.op=.slice ty x lo hi none) (hd:o.dst=some t) (hx:S.ev Z nt x=.str s) (h:opSlS Z nt S t ty lo hi k s=some r):∃ e,k e=some r∧EfOk X Z nt o S e:=by
 have mx:x∈o.op.operands.toList:=by rw[ho];cases lo<;>cases hi<;>simp[Op.operands]
 have ml:∀ y,lo=some y→y∈o.op.operands.toList:=fun y e=>by rw[ho,e];cases hi<;>simp[Op.operands]
 have mh:∀ y,hi=some y→y∈o.op.operands.toList:=fun y e=>by rw[ho,e];cases lo<;>simp[Op.operands]
 unfold opSlS at h
 obtain ⟨hS,h⟩:=chk_some h
 obtain ⟨i,h,hi1⟩:=bndI_ok h
 obtain ⟨j,h,hj1⟩:=bndI_ok h
 obtain ⟨hc,h⟩:=chk_some h
 simp only[Bool.and_eq_true,decide_eq_true_eq]at hc
 obtain ⟨⟨h0,h1⟩,h2⟩:=hc
 refine ⟨_,h,efq hd fun h T ha=>?_⟩
 exact q_slS (S:=T) (i:=i.toNat) (j:=j.toNat) ho (ha.ev mx hx) (bndd_of ha h0 ml hi1) (bndd_of ha (by omega) mh hj1) (by omega) (by omega) (by rw[hX.Z];exact Z.isS_ok _ hS)
theorem opSl_ok (hX:At X Z nt) {fz:List Nat}{ty:Nat}{x:Operand}{lo hi:Option Operand} (ho:o.op=.slice ty x lo hi none) (hd:o.dst=some t) (h:opSl Z nt S fz t ty lo hi k (S.ev Z nt x)=some r):∃ e,k e=some r∧EfOk X Z nt o S e:=by
 have mx:x∈o.op.operands.toList:=by rw[ho];cases lo<;>cases hi<;>simp[Op.operands]
 have ml:∀ y,lo=some y→y∈o.op.operands.toList:=fun y e=>by rw[ho,e];cases hi<;>simp[Op.operands]
 have mh:∀ y,hi=some y→y∈o.op.operands.toList:=fun y e=>by rw[ho,e];cases lo<;>simp[Op.operands]
 have hl2:lvl o=2:=by simp[lvl,ho]
 have hl1:lvl o≠0:=by rw[hl2];simp
 unfold opSl at h
 obtain ⟨q,hq,h9,h⟩:=rowOf_ok h
 obtain ⟨q2,hq2,h92,h⟩:=rowOf_ok h
 obtain ⟨h3,h⟩:=chk_some h
 have hq':nth X.Z.tab ty=some q:=by rw[hX.Z];exact hq
 have hq2':nth X.Z.tab q.el=some q2:=by rw[hX.Z];exact hq2
 split at h
 ·rename_i e l hx
  obtain ⟨c2,h⟩:=chk_some h
  obtain ⟨i,h,hi1⟩:=bndI_ok h
  obtain ⟨j,h,hj1⟩:=bndI_ok h
  obtain ⟨hc,h⟩:=chk_some h
  simp only[Bool.and_eq_true,decide_eq_true_eq]at hc
  obtain ⟨⟨h0,h1⟩,h2⟩:=hc
  refine ⟨_,h,efq hd fun h T ha=>?_⟩
  have:=q_slF (S:=T) (i:=i.toNat) (j:=j.toNat) ho (ha.ev mx hx) (bndd_of ha h0 ml hi1) (bndd_of ha (by omega) mh hj1) (by omega) (by omega) hq' h3 hq2' h92 (Nat.eq_of_beq_eq_true c2) (f':=fun k=>encD e ((subL l i j).getD k (dflt e))) (fun k hk=>by rw[subL_get hk])
  rw[← subL_len h0 h1 h2]at this
  exact this
 ·rename_i s g hx
  replace h:=live_ok h
  obtain ⟨rfl,h⟩:=h
  split at h
  ·rename_i E e l hσ
   obtain ⟨hc,h⟩:=chk_some h
   simp only[Bool.and_eq_true]at hc
   obtain ⟨i,h,hi1⟩:=bndI_ok h
   obtain ⟨j,h,hj1⟩:=bndI_ok h
   obtain ⟨hc2,h⟩:=chk_some h
   simp only[Bool.and_eq_true,decide_eq_true_eq]at hc2
   obtain ⟨⟨h0,h1⟩,h2⟩:=hc2
   have hE:=Nat.eq_of_beq_eq_true hc.1
   cases hmf:memN t fz with
   |true =>
    rw[hmf]at h
    simp only[cond_true]at h
    exact⟨_,h,efq hd fun h T ha=>q_slV (S:=T) (i:=i.toNat) (j:=j.toNat) ho (ha.ev mx hx) (ha.γ hl1 mx (pl_os hx)) ((ha.σ hl2 mx (pl_os hx)).trans (by rw[hσ];rfl)) (bndd_of ha h0 ml hi1) (bndd_of ha (by omega) mh hj1) (by omega) (by omega) hq' h3 hq2' h92 (Nat.eq_of_beq_eq_true hc.2)⟩
   |false =>
   rw[hmf]at h
   simp only[cond_false]at h
   refine ⟨_,h,fun h T ha hg=>?_⟩
   rw[← owned_app (hg _ rfl)]
   exact opOk_n (n_slO (S:=T) (i:=i.toNat) (j:=j.toNat) ho hd (ha.ev mx hx) (ha.γ hl1 mx (pl_os hx)) ((ha.σ hl2 mx (pl_os hx)).trans (by rw[hσ];rfl)) (bndd_of ha h0 ml hi1) (bndd_of ha (by omega) mh hj1) (by omega) (by omega) hq' h3 hE (by rw[← hE];exact hq2') h92 (Nat.eq_of_beq_eq_true hc.2) (subL_len h0 h1 h2) (f':=fun k=>encD e ((subL l i j).getD k (dflt e))) (fun k hk=>by rw[subL_get hk]))
  ·cases h
 ·cases h
def opSlM (Z:ISeat) (nt:Nat) (S:IS) (t ty:Nat) (lo hi:Option Operand) (mx:Operand) (k:Ef→Option R) (d:I):Option R:=rowOf Z ty fun q=>rowOf Z q.el fun q2=>chk (Nat.beq q.k 3) (match d with
 |.sl e l=>(match hi with|none=>none|some hj=>chk (Nat.beq q2.sz (sz e)) (bndI Z nt S lo (0:Nat) fun i=>match S.ev Z nt hj,S.ev Z nt mx with
  |.int .i64 j,.int .i64 m=>chk (decide (0≤i)&&decide (i≤j)&&decide (j≤m)&&decide (m≤l.length)) (k (vE t (.sl e (subL l i j))))
  |_,_=>none))
 |_=>none)
theorem opSlM_ok (hX:At X Z nt) {ty:Nat}{x mx:Operand}{lo hi:Option Operand} (ho:o.op=.slice ty x lo hi (some mx)) (hd:o.dst=some t) (h:opSlM Z nt S t ty lo hi mx k (S.ev Z nt x)=some r):∃ e,k e=some r∧EfOk X Z nt o S e:=by
 unfold opSlM at h
 obtain ⟨q,hq,h9,h⟩:=rowOf_ok h
 obtain ⟨q2,hq2,h92,h⟩:=rowOf_ok h
 obtain ⟨h3,h⟩:=chk_some h
 have hq':nth X.Z.tab ty=some q:=by rw[hX.Z];exact hq
 have hq2':nth X.Z.tab q.el=some q2:=by rw[hX.Z];exact hq2
 cases hi with
 |none=>split at h<;>cases h
 |some hj =>
 split at h
 ·rename_i e l hx
  have mx0:x∈o.op.operands.toList:=by rw[ho];cases lo<;>simp[Op.operands]
  have ml:∀ y,lo=some y→y∈o.op.operands.toList:=fun y e=>by rw[ho,e];simp[Op.operands]
  have mh:hj∈o.op.operands.toList:=by rw[ho];cases lo<;>simp[Op.operands]
  have mm:mx∈o.op.operands.toList:=by rw[ho];cases lo<;>simp[Op.operands]
  obtain ⟨c2,h⟩:=chk_some h
  obtain ⟨i,h,hi1⟩:=bndI_ok h
  split at h
  ·rename_i j m hje hme
   obtain ⟨hc,h⟩:=chk_some h
   simp only[Bool.and_eq_true,decide_eq_true_eq]at hc
   obtain ⟨⟨⟨h0,h1⟩,h2⟩,h4⟩:=hc
   refine ⟨_,h,efq hd fun h T ha=>?_⟩
   have e1:T.ev X hj=.int .i64 (j.toNat:Int):=by rw[ha.ev mh hje,Int.toNat_of_nonneg (by omega)];rfl
   have e2:T.ev X mx=.int .i64 (m.toNat:Int):=by rw[ha.ev mm hme,Int.toNat_of_nonneg (by omega)];rfl
   have:=q_slFM (S:=T) (i:=i.toNat) (j:=j.toNat) (m:=m.toNat) ho (ha.ev mx0 hx) (bndd_of ha h0 ml hi1) e1 e2 (by omega) (by omega) (by omega) hq' h3 hq2' h92 (Nat.eq_of_beq_eq_true c2) (f':=fun k=>encD e ((subL l i j).getD k (dflt e))) (fun k hk=>by rw[subL_get hk])
   rw[← subL_len h0 h1 (show j≤(l.length:Int) by omega)]at this
   exact this
  ·cases h
 ·cases h
def clrZ {α:Type} (v:α) (l:List α) (a m:Nat):List α:=l.take a++List.replicate m v++l.drop (a+m)
theorem clrZ_len {α:Type}{v:α}{l:List α}{a m:Nat} (h:a+m≤l.length):(clrZ v l a m).length=l.length:=by simp only[clrZ,List.length_append,List.length_take,List.length_replicate,List.length_drop];omega
theorem clrZ_in {α:Type}{v:α}{l:List α}{a m i:Nat} (h:a+m≤l.length) (hi:a≤i∧i<a+m) (d:α):(clrZ v l a m).getD i d=v:=by
 simp only[clrZ,List.getD_eq_getElem?_getD]
 rw[List.getElem?_append_left (by simp;omega),List.getElem?_append_right (by simp;omega),List.getElem?_replicate,if_pos (by simp;omega)];rfl
theorem clrZ_out {α:Type}{v:α}{l:List α}{a m i:Nat} (h:a+m≤l.length) (hi:¬(a≤i∧i<a+m)) (d:α):(clrZ v l a m).getD i d=l.getD i d:=by
 simp only[clrZ,List.getD_eq_getElem?_getD]
 by_cases h1:i<a
 ·rw[List.getElem?_append_left (by simp;omega),List.getElem?_append_left (by simp;omega),List.getElem?_take,if_pos h1]
 ·rw[List.getElem?_append_right (by simp;omega),List.getElem?_drop]
  simp only[List.length_append,List.length_take,List.length_replicate]
  congr 2;omega
def opClr (Z:ISeat) (S:IS) (ts:Array TypeId) (k:Ef→Option R) (d:I):Option R:=match ts.toList with
 |[ty]=>rowOf Z ty fun q=>rowOf Z q.el fun q2=>chk (Nat.beq q.k 3) (match d with
  |.ow s g z a m=>live S s g (match S.own s with
   |.arr E e l=>(match decC e (q2.zs.map zI) with
    |some v=>chk (Nat.beq q.el E&&Nat.beq z (sz e)&&Nat.beq q2.sz (sz e)&&Nat.beq q2.zs.length (sz e)) (chk (decide (a+m≤l.length)) (k (stE s (.arr E e (clrZ v l a m)))))
    |none=>none)
   |_=>none)
  |_=>none)
 |_=>none
theorem opClr_ok (hX:At X Z nt) {x:Operand}{ts:Array TypeId} (ho:o.op=.call { callee:=.builtin .clear,args:=#[x],argTypes:=ts }) (hd:o.dst=none) (h:opClr Z S ts k (S.ev Z nt x)=some r):∃ e,k e=some r∧EfOk X Z nt o S e:=by
 have mx:x∈o.op.operands.toList:=by rw[ho];simp[Op.operands,Call.operands]
 have hl2:lvl o=2:=by simp[lvl,ho]
 have hl1:lvl o≠0:=by rw[hl2];simp
 unfold opClr at h
 split at h
 ·rename_i ty hts
  have hts:ts=#[ty]:=by
   have:ts=ts.toList.toArray:=by simp
   rw[this,hts]
  obtain ⟨q,hq,h9,h⟩:=rowOf_ok h
  obtain ⟨q2,hq2,h92,h⟩:=rowOf_ok h
  obtain ⟨h3,h⟩:=chk_some h
  have hq':nth X.Z.tab ty=some q:=by rw[hX.Z];exact hq
  have hq2':nth X.Z.tab q.el=some q2:=by rw[hX.Z];exact hq2
  split at h
  ·rename_i s g z a m hx
   replace h:=live_ok h
   obtain ⟨rfl,h⟩:=h
   split at h
   ·rename_i E e l hσ
    split at h
    ·rename_i v hv
     have hq3:=chk_some h
     clear h
     obtain ⟨hc,h⟩:=hq3
     simp only[Bool.and_eq_true]at hc
     obtain ⟨⟨⟨c1,c2⟩,c3⟩,c4⟩:=hc
     have hE:=Nat.eq_of_beq_eq_true c1
     have c2:=Nat.eq_of_beq_eq_true c2
     subst c2
     have hq4:=chk_some h
     clear h
     obtain ⟨ham,h⟩:=hq4
     have ham:=of_decide_eq_true ham
     refine ⟨_,h,fun h T ha hg=>?_⟩
     have pm:s∈plI (S.ev Z nt x):=by rw[hx];simp[plI]
     have hσT:T.σ s=.arr E (sz e) l.length (fun i=>encD e (l.getD i (dflt e))):=(ha.σ hl2 mx pm).trans (by rw[hσ];rfl)
     have:=n_clearZ (S:=T) ho hts hd (ha.ev mx hx) (ha.γ hl1 mx pm) hσT ham hq' h3 hE (by rw[← hE];exact hq2') h92 (Nat.eq_of_beq_eq_true c3) c4
      (f':=fun i=>if a≤i∧i<a+m then q2.zs.map Zr.toD else encD e (l.getD i (dflt e))) (fun i _ hi=>if_pos hi) (fun i _ hi=>if_neg hi)
     refine OpOk.wk (opOk_n this) ?_
     have hw:=wk_arrN (X:=X) (S:=⟨T.ρ,T.γ,upd T.σ s (.arr E (sz e) l.length (fun i=>if a≤i∧i<a+m then q2.zs.map Zr.toD else encD e (l.getD i (dflt e))))⟩) s (E:=E) (z:=sz e) (n:=l.length) (f:=fun i=>if a≤i∧i<a+m then q2.zs.map Zr.toD else encD e (l.getD i (dflt e))) (fun i=>encD e ((clrZ v l a m).getD i (dflt e))) (upd_same _ _ _) (fun i hi=>by
      by_cases e1:a≤i∧i<a+m
      ·rw[if_pos e1,clrZ_in ham e1,← zI_toDL h,← toDL_enc h]
       exact nilIL_rel h (decC_ok e hv)
      ·rw[if_neg e1,clrZ_out ham e1]
       exact nilL_refl _)
     have e2:(⟨T.ρ,T.γ,upd (upd T.σ s (.arr E (sz e) l.length (fun i=>if a≤i∧i<a+m then q2.zs.map Zr.toD else encD e (l.getD i (dflt e))))) s (.arr E (sz e) l.length (fun i=>encD e ((clrZ v l a m).getD i (dflt e))))⟩:St)=T.app (stE s (.arr E e (clrZ v l a m))).wr ((stE s (.arr E e (clrZ v l a m))).vl h):=by
      unfold St.app stE Ef.wr Ef.vl
      simp only[Option.map_some,Option.map_none,updO,IOwn.toOwn,clrZ_len ham]
      congr 1
      funext j
      simp only[upd]
      cases Nat.beq j s<;>rfl
     rw[e2]at hw
     exact hw
    ·cases h
   ·cases h
  ·cases h
 ·cases h
def cpL {α:Type} (l m:List α):List α:=m.take l.length++l.drop m.length
theorem cpL_len {α:Type} (l m:List α):(cpL l m).length=l.length:=by simp only[cpL,List.length_append,List.length_take,List.length_drop];omega
theorem cpL_lo {α:Type}{l m:List α}{d:α}{i:Nat} (h:i<Nat.min m.length l.length):(cpL l m).getD i d=m.getD i d:=by
 have h1:i<m.length:=Nat.lt_of_lt_of_le h (Nat.min_le_left _ _)
 have h2:i<l.length:=Nat.lt_of_lt_of_le h (Nat.min_le_right _ _)
 simp only[cpL,List.getD_eq_getElem?_getD]
 rw[List.getElem?_append_left (by rw[List.length_take];omega),List.getElem?_take,if_pos h2]
theorem cpL_hi {α:Type}{l m:List α}{d:α}{i:Nat} (h:Nat.min m.length l.length≤i) (hi:i<l.length):(cpL l m).getD i d=l.getD i d:=by
 have h0:Nat.min m.length l.length=min m.length l.length:=rfl
 have h1:m.length≤i:=by omega
 simp only[cpL,List.getD_eq_getElem?_getD]
 rw[List.getElem?_append_right (by rw[List.length_take];omega),List.getElem?_drop,List.length_take]
 congr 2;omega
def opCp (Z:ISeat) (S:IS) (t:Nat) (ts:Array TypeId) (k:Ef→Option R) (d y:I):Option R:=match ts.toList with
 |[ty,_]=>rowOf Z ty fun q=>rowOf Z q.el fun q2=>chk (Nat.beq q.k 3) (match y with
  |.sl e' m=>(match d with
   |.os s g=>live S s g (match S.own s with
    |.arr E e l=>chk (Nat.beq q.el E&&Nat.beq q2.sz (sz e)&&!(Nat.beq (sz e) 0)) (match asL e e' m with
     |some m=>k ⟨some t,.int .i64 (Nat.min m.length l.length:Nat),none,some (s,.arr E e (cpL l m))⟩
     |none=>none)
    |_=>none)
   |_=>none)
  |_=>none)
 |_=>none
theorem opCp_ok (hX:At X Z nt) {x y:Operand}{ts:Array TypeId} (ho:o.op=.call { callee:=.builtin .copy,args:=#[x,y],argTypes:=ts }) (hd:o.dst=some t) (h:opCp Z S t ts k (S.ev Z nt x) (S.ev Z nt y)=some r):∃ e,k e=some r∧EfOk X Z nt o S e:=by
 have mx:x∈o.op.operands.toList:=by rw[ho];simp[Op.operands,Call.operands]
 have my:y∈o.op.operands.toList:=by rw[ho];simp[Op.operands,Call.operands]
 have hl2:lvl o=2:=by simp[lvl,ho]
 have hl1:lvl o≠0:=by rw[hl2];simp
 unfold opCp at h
 split at h
 ·rename_i ty ty' hts
  have hts:ts=#[ty,ty']:=by
   have:ts=ts.toList.toArray:=by simp
   rw[this,hts]
  obtain ⟨q,hq,h9,h⟩:=rowOf_ok h
  obtain ⟨q2,hq2,h92,h⟩:=rowOf_ok h
  obtain ⟨h3,h⟩:=chk_some h
  have hq':nth X.Z.tab ty=some q:=by rw[hX.Z];exact hq
  have hq2':nth X.Z.tab q.el=some q2:=by rw[hX.Z];exact hq2
  split at h
  ·rename_i e' m hy
   split at h
   ·rename_i s g hx
    replace h:=live_ok h
    obtain ⟨rfl,h⟩:=h
    split at h
    ·rename_i E e l hσ
     obtain ⟨hc,h⟩:=chk_some h
     simp only[Bool.and_eq_true,Bool.not_eq_true']at hc
     obtain ⟨⟨c1,c2⟩,c4⟩:=hc
     have hE:=Nat.eq_of_beq_eq_true c1
     split at h
     ·rename_i m' hm
      have hy':S.ev Z nt y=.sl e m':=by rw[hy];exact asL_eq hm
      refine ⟨_,h,fun h T ha hg=>?_⟩
      have:=n_copy (S:=T) ho hts hd (ha.ev mx hx) (ha.γ hl1 mx (pl_os hx)) ((ha.σ hl2 mx (pl_os hx)).trans (by rw[hσ];rfl)) (ha.ev my hy') hq' h3 hE (by rw[← hE];exact hq2') h92 (Nat.eq_of_beq_eq_true c2) c4 rfl
       (f':=fun i=>encD e ((cpL l m').getD i (dflt e))) (fun i hi=>by rw[cpL_lo hi]) (fun i h1 h2=>by rw[cpL_hi h1 h2])
      have h0:=opOk_n this
      have e0:(⟨upd T.ρ t (.int .i64 (Nat.min m'.length l.length:Nat)),T.γ,upd T.σ s (.arr E (sz e) l.length (fun i=>encD e ((cpL l m').getD i (dflt e))))⟩:St)=T.app (Ef.wr ⟨some t,.int .i64 (Nat.min m'.length l.length:Nat),none,some (s,.arr E e (cpL l m'))⟩) (Ef.vl h ⟨some t,.int .i64 (Nat.min m'.length l.length:Nat),none,some (s,.arr E e (cpL l m'))⟩):=by
       show _=(⟨upd T.ρ t _,T.γ,upd T.σ s (.arr E (sz e) (cpL l m').length _)⟩:St)
       rw[cpL_len];rfl
      rw[← e0]
      exact h0
     ·cases h
    ·cases h
   ·cases h
  ·cases h
 ·cases h
end
end
end Go.Ab
