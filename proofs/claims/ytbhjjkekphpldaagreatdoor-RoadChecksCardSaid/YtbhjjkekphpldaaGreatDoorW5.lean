/- Walks by computing: what each function of the program that the laws reach gives for what it gets, as plain Lean, and that it is so; without a condition but those that stand in each theorem. -/
import Derived.Test.YtbhjjkekphpldaaGreatDoorW1
import Derived.Test.YtbhjjkekphpldaaGreatDoorW2
import Derived.Test.YtbhjjkekphpldaaGreatDoorW3
import Derived.Test.YtbhjjkekphpldaaGreatDoorW4
set_option linter.all false
namespace Go.Ab
open Go Go.RowKit
set_option linter.all false
set_option maxHeartbeats 1000000
noncomputable section
section
variable {X:Ctx}{o:Oper}{T:St}{ty:TypeId}{q q2:dM}
theorem akR {x y:Operand}{z m t:Nat}{E:TypeId}{f:Nat→List D}{ts:Array TypeId} (ho:o.op=.call { callee:=.builtin .append,args:=#[x,y],argTypes:=ts }) (fW:ts=#[ty,ty]) (hd:o.dst=some t)
  (hx:T.ev X x=.nil) (hy:T.ev X y=.sl z m f)
  (hr:nth X.Z.bL ty=some q) (hk:Nat.beq q.k 3=true) (hE:q.el=E) (hq:nth X.Z.bL E=some q2) (dF:Nat.beq q2.k 9=false) (hz:q2.sz=z) (nO:Nat.beq q2.zs.length z=true) (iK:Nat.beq z 0=false)
  (hb:m * q2.bytes≤140737488355328) (hm:m≤140737488355328) :
  kf X o T (T.owned t t (.arr E z m f)):=fun κ sv a w hs=>by
 subst fW
 have fY:=X.Z.bG _ _ hr (by intro e;rw[e]at hk;cases hk)
 have dx:=X.Z.bG _ _ hq (by intro e;rw[e]at dF;cases dF)
 obtain ⟨iq,dq,jA,uH,kB,pO,⟨zv,j0,oe⟩,_⟩:=du dx
 have hu:=dp fY hk
 rw[hE]at hu
 have aP:eo w (X.base t) E z (.slice none 0 0) 0 []:=qd _ _ _ _
 have gk:a.eval x=.slice none 0 0:=by
  have cH:=hs.ev x
  rw[hx]at cH
  generalize a.eval x=v at cH
  cases cH;rfl
 have eB:=hs.ev y
 rw[hy]at eB
 have qv:zv.cells.size=z:=by have:=rY oe;have h2:=Nat.eq_of_beq_eq_true nO;simp at this;omega
 have jK:0<z:=by
  cases z with
  |zero=>cases iK
  |succ z=>omega
 have hle:∀ pv,Le κ κ T.γ (aG T.γ t (T.γ t+1)) sv (aG sv t pv):=eY κ T.γ sv t
 rw[hd]
 have bl:∀ {w':World},w.grownBy w' (Value.slice none 0 0).ownBlock→Below w.heap.size w w':=fun cG=>⟨cG.os,cG.tape,cG.output,cG.size,fun k hk=>cG.block k hk (by simp[Value.ownBlock])⟩
 generalize fG:a.eval y=yv at eB
 cases eB with
 |lI =>
  have bX:=l8 (P:=X.Z.P) (w:=w) (X.base t) ty o.type E iq z hu jA (.slice none 0 0) 0 [] aP
  refine ⟨.slice none 0 0,w,κ,_,.inl ?_,fk hs t t (pv:=.slice none 0 0) rfl (cL (Below.refl _ _) _) (fun b hb=>by cases hb) ?_⟩
  ·simp[execOp,ho,resolve,invoke,builtin,gk,fG,bX]
  ·exact⟨[],by rw[aC];exact aP,fun i hi=>by omega,fun i hi=>by omega,fun i hi=>by omega⟩
 |kV _ _ ad cap =>
  obtain ⟨v',w',bX,eN,cG,tH⟩:=im (P:=X.Z.P) (w:=w) (X.base t) ty o.type E iq zv z q2.bytes hu jA j0 (by rw[kB,hz]) (by rw[pO]) qv jK (.slice none 0 0) 0 [] aP ad 0 cap [] (by simp)
   (fun j v hj=>by simp at hj) (fun v hv=>by simp at hv) (by unfold maxLen;omega) (by simp) (hs.aJ.lT _)
  refine ⟨v',w',κ,_,.inl ?_,fk hs t t (pv:=v') ?_ (cL (bl cG) _) (fun b' bz=>?_) ?_⟩
  ·simp[execOp,ho,resolve,invoke,builtin,gk,fG,bX]
  ·rcases eN.2 with ⟨e,_⟩|⟨_,_,_,_,e,_⟩<;>rw[e]<;>rfl
  ·refine .inl ((tH b' ?_).resolve_right (by simp[Value.ownBlock]))
   rcases eN.2 with ⟨e,_⟩|⟨_,_,_,_,e,_⟩<;>(rw[e]at bz ⊢;exact bz)
  ·refine ⟨_,by rw[aC];exact eN,fun i hi=>?_,fun i hi=>?_,fun i hi=>?_⟩<;>omega
 |sl _ _ _ b off cap u QS Fb oa zX bQ =>
  have pS:∀ i,i<m→(u i).length=z:=fun i hi=>by rw[(zX i hi).length,Fb i hi]
  have kj:(((List.range m).map u).flatten).length=m * z:=by
   rw[tq _ (z:=z) (fun c hc=>by
    obtain ⟨k,hk,rfl⟩:=List.mem_map.1 hc
    exact pS k (by simpa using hk))]
   simp
  have pd:∀ j v,(((List.range m).map u).flatten)[j]?=some v→∃ i k,i<m∧k<z∧j=i * z+k∧(u i)[k]?=some v:=by
   intro j v hj
   have mT:=(List.getElem?_eq_some_iff.1 hj).1
   rw[kj]at mT
   have hk:j % z<z:=Nat.mod_lt _ jK
   have hi:j / z<m:=(Nat.div_lt_iff_lt_mul jK).2 mT
   have e:j=j / z * z+j % z:=by rw[Nat.mul_comm];exact(Nat.div_add_mod j z).symm
   refine ⟨j / z,j % z,hi,hk,e,?_⟩
   rw[e,qM _ (z:=z) (fun c hc=>by
    obtain ⟨k,hk,rfl⟩:=List.mem_map.1 hc
    exact pS k (by simpa using hk)) _ _ hk]at hj
   simpa[hi] using hj
  obtain ⟨v',w',bX,eN,cG,tH⟩:=im (P:=X.Z.P) (w:=w) (X.base t) ty o.type E iq zv z q2.bytes hu jA j0 (by rw[kB,hz]) (by rw[pO]) qv jK (.slice none 0 0) 0 [] aP ⟨b,off,none⟩ m cap (((List.range m).map u).flatten) kj
   (fun j v hj=>by
    obtain ⟨i,k,hi,hk,rfl,hv⟩:=pd j v hj
    rw[addr_add,← Nat.add_assoc]
    exact hs.aJ.gU _ _ _ (bQ i k v hi hv))
   (fun v hv=>by
    obtain ⟨j,hj⟩:=List.getElem?_of_mem hv
    obtain ⟨i,k,hi,hk,rfl,hv⟩:=pd j v hj
    exact aD.lg (zX i hi) (oa i hi) v (List.mem_of_getElem? hv))
   (by unfold maxLen;omega) (by rw[Nat.zero_add];exact hb) (hs.aJ.lT _)
  simp only[Nat.zero_add,List.nil_append]at eN
  refine ⟨v',w',κ,_,.inl ?_,fk hs t t (pv:=v') ?_ (cL (bl cG) _) (fun b' bz=>?_) ?_⟩
  ·simp[execOp,ho,resolve,invoke,builtin,gk,fG,bX]
  ·rcases eN.2 with ⟨e,_⟩|⟨_,_,_,_,e,_⟩<;>rw[e]<;>rfl
  ·refine .inl ((tH b' ?_).resolve_right (by simp[Value.ownBlock]))
   rcases eN.2 with ⟨e,_⟩|⟨_,_,_,_,e,_⟩<;>(rw[e]at bz ⊢;exact bz)
  ·refine ⟨_,by rw[aC];exact eN,fun i hi=>Fb i hi,fun i hi=>oa i hi,fun i hi=>?_⟩
   rw[xw u m pS i hi]
   exact(zX i hi).mono (hle _)
end
section
variable {R:Type}{X:Ctx}{Z:aX}{nt:Nat}{S:IS}{o:Oper}{r:R}{k:Ef→Option R}{t:Nat}
def BD:Operand→Operand→Bool
 |.tmp a,.tmp b=>Nat.beq a b
 |.const (.int k m),.const (.int k' n)=>decide (k=k')&&decide (m=n)
 |_,_=>false
theorem abK {x y:Operand} (h:BD x y=true):x=y:=by
 unfold BD at h
 split at h
 ·rw[Nat.eq_of_beq_eq_true h]
 ·simp only[Bool.and_eq_true,decide_eq_true_eq]at h
  rw[h.1,h.2]
 ·cases h
def Mk (a:Int) (b:Nat):Bool:=decide (0≤a)&&decide (a * b≤281474976710656)&&decide (a≤281474976710656)
def dH (n b:Nat):Bool:=decide (n * b≤140737488355328)&&decide (n≤140737488355328)
theorem OO {T:St}{t s:Nat}{E z n:Nat}{f:Nat→List D} (f':Nat→List D) (h:∀ i,i<n→vk (f i) (f' i)):Wk X (T.owned t s (.arr E z n f)) (T.owned t s (.arr E z n f')):=by
 have:=HF (X:=X) (S:=T.owned t s (.arr E z n f)) s (E:=E) (z:=z) (n:=n) (f:=f) f' (aC _ _ _) h
 have e:(⟨(T.owned t s (.arr E z n f)).ρ,(T.owned t s (.arr E z n f)).γ,aG (T.owned t s (.arr E z n f)).σ s (.arr E z n f')⟩:St)=T.owned t s (.arr E z n f'):=by
  unfold St.owned
  congr 1
  funext j
  simp only[aG]
  cases Nat.beq j s<;>rfl
 rwa [e]at this
def UZ (Z:aX) (S:IS) (t ty:Nat) (x y:Operand) (k:Ef→Option R) (d:I):Option R:=ao (BD x y) (match d with
 |.int .i64 a=>rowOf Z ty fun q=>rowOf Z q.el fun q2=>ao (Nat.beq q.k 3) (match Z.ty q.el with
  |some e=>(match ew e (q2.zs.map zI) with
   |some v=>ao (Mk a q2.bytes) (k (nj S t t (.arr q.el e (List.replicate a.toNat v))))
   |none=>none)
  |none=>none)
 |_=>none)
theorem agB (hX:At X Z nt) {ty:Nat}{x y:Operand} (ho:o.op=.makeSlice ty x y) (hd:o.dst=some t) (h:UZ Z S t ty x y k (S.ev Z nt x)=some r):∃ e,k e=some r∧dA X Z nt o S e:=by
 have mx:x∈o.op.operands.toList:=by rw[ho];simp[Op.operands]
 unfold UZ at h
 replace h:=aq h
 obtain ⟨he,h⟩:=h
 have he:=abK he
 subst he
 split at h
 ·rename_i a hx
  obtain ⟨q,hq,h9,h⟩:=cg h
  obtain ⟨q2,eS,gS,h⟩:=cg h
  obtain ⟨h3,h⟩:=aq h
  split at h
  ·rename_i e XX
   split at h
   ·rename_i v hv
    obtain ⟨hf,h⟩:=aq h
    simp only[Mk,Bool.and_eq_true,decide_eq_true_eq]at hf
    obtain ⟨_,z1,z2⟩:=Z.Ks _ _ _ XX eS
    refine ⟨_,h,fun h T ha hg=>?_⟩
    rw[← gL (hg _ rfl)]
    have:=akX ho hd (ha.ev mx hx) (ha.ev mx hx) hf.1.1 (by rw[hX.Z];exact hq) h3 rfl (by rw[hX.Z];exact eS) gS z1 (by rw[z2];exact Nat.beq_refl _) hf.1.2 hf.2
    refine sa.wk (eK this) ?_
    simp only[aK.toOwn,List.length_replicate]
    refine OO _ fun i hi=>?_
    rw[List.getD_eq_getElem?_getD,List.getElem?_replicate,if_pos hi,← s6 h,← bd h]
    exact eE h (cM e hv)
   ·cases h
  ·cases h
 ·cases h
def El (e:T):List (List I)→Option (List (den e))
 |[]=>some []
 |c::l=>match ew e c with
  |some x=>(match El e l with|some xs=>some (x::xs)|none=>none)
  |none=>none
theorem Lr {e:T}:∀ {cs:List (List I)}{xs:List (den e)},El e cs=some xs→xs.length=cs.length∧∀ (i:Nat) (x:den e),xs[i]?=some x→∃ c,cs[i]?=some c∧bg c (bj e x)
 |[],xs,h=>by simp[El]at h;subst h;exact⟨rfl,fun i x h=>by simp at h⟩
 |c::l,xs,h=>by
  unfold El at h
  split at h
  ·rename_i x hx
   split at h
   ·rename_i ys hy
    simp only[Option.some.injEq]at h
    subst h
    obtain ⟨h1,h2⟩:=Lr hy
    refine ⟨by simp[h1],fun i y hi=>?_⟩
    cases i with
    |zero=>simp at hi;subst hi;exact⟨c,by simp,cM e hx⟩
    |succ i=>simpa using h2 i y (by simpa using hi)
   ·cases h
  ·cases h
def mI (Z:aX) (nt:Nat) (S:IS):List Operand→List (List I)
 |[]=>[]
 |x::l=>(S.ev Z nt x).cells::mI Z nt S l
def UG (z:Nat):List (List I)→Bool
 |[]=>true
 |c::l=>Nat.beq c.length z&&pD c&&UG z l
theorem za {h:Nat→Nat}{T:St} (ha:Ag X Z nt S h T o):∀ {l:List Operand},(∀ x∈l,x∈o.op.operands.toList)→nL X T l=(mI Z nt S l).map (I.al h)
 |[],_=>rfl
 |x::l,hm=>by
  have h1:=za ha (l:=l) fun p hp=>hm p (List.mem_cons_of_mem _ hp)
  have h3:=ha.ev (hm x (List.mem_cons_self ..)) rfl
  simp only[nL,mI,List.map_cons,h1,h3,jj]
theorem Ho (h:Nat→Nat) (z:Nat):∀ l:List (List I),IF z (l.map (I.al h))=UG z l
 |[]=>rfl
 |c::l=>by simp only[List.map_cons,IF,UG,fc,ji,Ho h z l]
theorem Ns:∀ {l l':List D},vk l l'→l'.length=l.length
 |[],[],_=>rfl
 |_::l,_::l',h=>by simp only[List.length_cons,Ns h.2]
theorem ag9 {X:Ctx}{S:St} (t:Nat) {z n:Nat}{f:Nat→List D} (f':Nat→List D) (h:S.ρ t=.sl z n f) (hf:∀ i,i<n→vk (f i) (f' i)):Wk X S (S.set t (.sl z n f')):=fun κ sv a w hs=>by
 refine ⟨κ,sv,⟨hs.size,hs.defers,fun i hi=>?_,hs.aJ.BM rfl rfl⟩⟩
 by_cases e:i=t
 ·subst e
  simp only[St.set,aC]
  have h1:=hs.slot i hi
  rw[h]at h1
  generalize a.tmps.getD i Go.undef=v at h1
  cases h1 with
  |sl _ _ _ b off cap u h1 h2 h5 h3 h4=>exact .sl z n f' b off cap u h1 (fun i hi=>by rw[Ns (hf i hi)];exact h2 i hi) (fun i hi=>uM (hf i hi) (h5 i hi)) (fun i hi=>iS (hf i hi) (h3 i hi)) h4
  |lI=>exact .lI _ _
  |kV=>exact .kV _ _ _ _
 ·simp only[St.set,bh _ _ _ _ e];exact hs.slot i hi
def UL (Z:aX) (nt:Nat) (S:IS) (fz:List Nat) (t ty n:Nat) (ps:Array (Nat×Operand)) (k:Ef→Option R):Option R:=rowOf Z ty fun q=>rowOf Z q.el fun q2=>ao (Nat.beq q.k 3) (match Z.ty q.el with
 |some e=>bif Nat.beq n 0 then ao (Nat.beq ps.toList.length 0) (bif bc t fz then k (nj S t t (.arr q.el e [])) else k (nj S t t (.arr q.el e []))) else (match AS 0 ps.toList with
  |some xs=>ao (Nat.beq xs.length n&&!(Nat.beq (sz e) 0)&&Nat.ble (n * sz e) 16777216&&UG (sz e) (mI Z nt S xs)) (match El e (mI Z nt S xs) with
   |some l=>bif bc t fz then k (vE t (.sl e l)) else k (nj S t t (.arr q.el e l))
   |none=>none)
  |none=>none)
 |none=>none)
theorem agm (hX:At X Z nt) {fz:List Nat}{ty n:Nat}{ps:Array (Nat×Operand)} (ho:o.op=.buildSlice ty n ps) (hd:o.dst=some t) (h:UL Z nt S fz t ty n ps k=some r):∃ e,k e=some r∧dA X Z nt o S e:=by
 unfold UL at h
 obtain ⟨q,hq,h9,h⟩:=cg h
 obtain ⟨q2,eS,gS,h⟩:=cg h
 obtain ⟨h3,h⟩:=aq h
 have fy:nth X.Z.bL ty=some q:=by rw[hX.Z];exact hq
 have fU:nth X.Z.bL q.el=some q2:=by rw[hX.Z];exact eS
 split at h
 ·rename_i e XX
  obtain ⟨_,z1,z2⟩:=Z.Ks _ _ _ XX eS
  cases hn:Nat.beq n 0 with
  |true =>
   rw[hn]at h
   have yo:=Nat.eq_of_beq_eq_true hn
   subst yo
   simp only[cond_true]at h
   obtain ⟨hp,h⟩:=aq h
   have hp:=Gw hp
   have h:k (nj S t t (.arr q.el e []))=some r:=by
    cases hm:bc t fz<;>(rw[hm]at h;exact h)
   refine ⟨_,h,fun h T ha hg=>?_⟩
   rw[← gL (hg _ rfl)]
   exact eK (akU _ ho hd hp fy h3 rfl fU gS z1)
  |false =>
   rw[hn]at h
   simp only[cond_false]at h
   split at h
   ·rename_i xs zZ
    obtain ⟨hc,h⟩:=aq h
    simp only[Bool.and_eq_true,Bool.not_eq_true']at hc
    obtain ⟨⟨⟨c1,c2⟩,c3⟩,c4⟩:=hc
    have G5:∀ x∈xs,x∈o.op.operands.toList:=by
     intro x hx
     rw[ho]
     have h1:=Hx zZ
     simp only[Op.operands]
     rw[h1]
     simp only[List.map_map,List.mem_map,Function.comp_apply]
     obtain ⟨i,hi,rfl⟩:=List.getElem_of_mem hx
     exact⟨(xs[i],i),by rw[List.mk_mem_zipIdx_iff_getElem?];simp[hi],rfl⟩
    have hlen:n=xs.length:=(Nat.eq_of_beq_eq_true c1).symm
    have qu:(mI Z nt S xs).length=xs.length:=by
     generalize xs=l
     induction l with
     |nil=>rfl
     |cons x l ih=>simp[mI,ih]
    split at h
    ·rename_i l hl
     obtain ⟨e1,e2⟩:=Lr hl
     have hat:∀ (h:Nat→Nat) i,i<n→∃ c,vG ((mI Z nt S xs).map (I.al h)) i=I.al h c∧(mI Z nt S xs)[i]?=some c∧bg c (bj e (l.getD i (bY e))):=fun h i hi=>by
      have Cj:i<l.length:=by omega
      obtain ⟨c,hc1,Ce⟩:=e2 i l[i] (List.getElem?_eq_getElem Cj)
      refine ⟨c,?_,hc1,?_⟩
      ·simp[vG,eU,hc1]
      ·rw[List.getD_eq_getElem?_getD,List.getElem?_eq_getElem Cj];exact Ce
     cases hm:bc t fz with
     |false =>
      rw[hm]at h
      refine ⟨_,h,fun h T ha hg=>?_⟩
      rw[← gL (hg _ rfl)]
      have fO:=za ha G5
      have:=akV ho hd zZ c1 fy h3 rfl fU gS z1 c2 hn c3 fO (by rw[Ho];exact c4)
      refine sa.wk (eK this) ?_
      have Cm:n=l.length:=by omega
      simp only[aK.toOwn]
      rw[← Cm]
      refine OO _ fun i hi=>?_
      obtain ⟨c,h1,_,h2⟩:=hat h i hi
      rw[h1,← bd h]
      exact eE h h2
     |true =>
      rw[hm]at h
      refine ⟨_,h,fun h T ha hg=>?_⟩
      have fO:=za ha G5
      have:=anD ho hd zZ c1 fy h3 rfl fU gS z1 c2 hn c3 fO (by rw[Ho];exact c4)
      refine sa.wk (eK this) ?_
      have Cm:n=l.length:=by omega
      have hw:=ag9 (X:=X) (S:=T.set t (.sl (sz e) n (vG ((mI Z nt S xs).map (I.al h))))) t (fun i=>bN e (l.getD i (bY e))) (aC _ _ _) (fun i hi=>by
       obtain ⟨c,h1,h4,h2⟩:=hat h i hi
       rw[h1,← bd h];exact eE h h2)
      have e3:(T.set t (.sl (sz e) n (vG ((mI Z nt S xs).map (I.al h))))).set t (.sl (sz e) n (fun i=>bN e (l.getD i (bY e))))=T.app (vE t (.sl e l)).wr ((vE t (.sl e l)).vl h):=by
       unfold St.set St.app vE Ef.wr Ef.vl
       simp only[Option.map_none,vL,I.toD,AV,Cm]
       congr 1
       funext j
       simp only[aG]
       cases Nat.beq j t<;>rfl
      rw[e3]at hw
      exact hw
    ·cases h
   ·cases h
 ·cases h
def vP (b:ByteArray):List Int:=b.data.toList.map fun x=>(x.toNat:Int)
def akw:List Zr→Bool
 |[.i .u8]=>true
 |_=>false
def J5 (Z:aX) (S:IS) (t:Nat) (ts:Array TypeId) (k:Ef→Option R) (d:I) (b:ByteArray):Option R:=match ts.toList with
 |[ty,CC]=>ao (Z.Fx CC) (rowOf Z ty fun q=>rowOf Z q.el fun q2=>ao (Nat.beq q.k 3&&Nat.beq q2.sz 1&&Nat.beq q2.bytes 1&&akw q2.zs) (match d with
  |.os s g=>live S s g (match S.own s with
   |.arr E (.int .u8) l=>ao (Nat.beq q.el E&&decide (l.length+b.size≤140737488355328)) (k (nj S t s (.arr E (.int .u8) (l++vP b))))
   |_=>none)
  |_=>none))
 |_=>none
theorem abx (hX:At X Z nt) {x y:Operand}{b:ByteArray}{ts:Array TypeId} (ho:o.op=.call { callee:=.builtin .append,args:=#[x,y],argTypes:=ts }) (hd:o.dst=some t) (hy:S.ev Z nt y=.str b) (h:J5 Z S t ts k (S.ev Z nt x) b=some r):∃ e,k e=some r∧dA X Z nt o S e:=by
 have mx:x∈o.op.operands.toList:=by rw[ho];simp[Op.operands,Call.operands]
 have my:y∈o.op.operands.toList:=by rw[ho];simp[Op.operands,Call.operands]
 have dD:lvl o=2:=by simp[lvl,ho]
 have dS:lvl o≠0:=by rw[dD];simp
 unfold J5 at h
 split at h
 ·rename_i ty CC fW
  obtain ⟨hS,h⟩:=aq h
  have fW:ts=#[ty,CC]:=by
   have:ts=ts.toList.toArray:=by simp
   rw[this,fW]
  obtain ⟨q,hq,h9,h⟩:=cg h
  obtain ⟨q2,eS,gS,h⟩:=cg h
  obtain ⟨h3,h⟩:=aq h
  simp only[Bool.and_eq_true]at h3
  obtain ⟨⟨⟨h3,hz⟩,EZ⟩,hu8⟩:=h3
  have fy:nth X.Z.bL ty=some q:=by rw[hX.Z];exact hq
  have fU:nth X.Z.bL q.el=some q2:=by rw[hX.Z];exact eS
  have nO:q2.zs=[.i .u8]:=by
   unfold akw at hu8
   split at hu8
   ·assumption
   ·cases hu8
  split at h
  ·rename_i s g hx
   replace h:=cX h
   obtain ⟨rfl,h⟩:=h
   split at h
   ·rename_i E l aF
    obtain ⟨hc,h⟩:=aq h
    simp only[Bool.and_eq_true,decide_eq_true_eq]at hc
    have hE:=Nat.eq_of_beq_eq_true hc.1
    refine ⟨_,h,fun h T ha hg=>?_⟩
    rw[← gL (hg _ rfl)]
    have hq3:nth X.Z.bL E=some q2:=by rw[← hE];exact fU
    have MC:(vP b).length=b.size:=by unfold vP;rw[List.length_map,Array.length_toList];rfl
    have:=akS (S:=T) ho fW hd (ha.ev mx hx) (ha.γ dS mx (eO hx)) ((ha.σ dD mx (eO hx)).trans (by rw[aF];rfl)) (ha.ev my hy) fy h3 hE (by rw[hX.Z];exact Z.tK _ hS) hq3 gS (Nat.eq_of_beq_eq_true hz) nO (Nat.eq_of_beq_eq_true EZ) hc.2
     (f':=fun i=>bN (.int .u8) ((l++vP b).getD i 0)) (n':=(l++vP b).length) (by rw[List.length_append,MC]) (fun i hi=>by
      simp only[List.getD_eq_getElem?_getD];rw[List.getElem?_append_left hi];rfl) (fun i hi=>by
      simp only[List.getD_eq_getElem?_getD]
      rw[List.getElem?_append_right (by omega),Nat.add_sub_cancel_left]
      have ek:i<b.data.toList.length:=by rw[Array.length_toList];exact hi
      simp only[vP,List.getElem?_map,List.getElem?_eq_getElem ek,Option.map_some,Option.getD_some]
      rfl)
    exact eK this
   ·cases h
  ·cases h
 ·cases h
def UJ (Z:aX) (S:IS) (t:Nat) (ts:Array TypeId) (k:Ef→Option R) (d y:I):Option R:=match ts.toList with
 |[ty,CC]=>ao (Nat.beq ty CC) (rowOf Z ty fun q=>rowOf Z q.el fun q2=>ao (Nat.beq q.k 3) (match y with
  |.sl e' m=>(match d with
   |.os s g=>live S s g (match S.own s with
    |.arr E e l=>ao (Nat.beq q.el E&&Nat.beq q2.sz (sz e)&&Nat.beq q2.zs.length (sz e)&&!(Nat.beq (sz e) 0)) (match kg e e' m with
     |some m=>ao (dH (l.length+m.length) q2.bytes) (k (nj S t s (.arr E e (l++m))))
     |none=>none)
    |_=>none)
   |.nil=>ao (Nat.beq q2.sz (sz e')&&Nat.beq q2.zs.length (sz e')&&!(Nat.beq (sz e') 0)) (ao (dH m.length q2.bytes) (k (nj S t t (.arr q.el e' m))))
   |_=>none)
  |.ow s2 g2 z2 c m=>(match d with
   |.ow s g z c0 kk=>live S s g (match S.own s with
    |.arr E e l=>ao (Nat.beq s2 s&&Nat.beq g2 (S.gen s)&&Nat.beq z2 z&&Nat.beq z (sz e)&&Nat.beq c0 0&&Nat.beq q.el E&&Nat.beq q2.sz (sz e)&&Nat.beq q2.zs.length (sz e)&&!(Nat.beq (sz e) 0)) (ao (decide (kk≤l.length)&&decide (c+m≤l.length)&&decide (kk+m≤l.length)) (ao (dH (kk+m) q2.bytes) (k (nj S t s (.arr E e (l.take kk++(l.drop c).take m))))))
    |_=>none)
   |_=>none)
  |.os s2 g2=>live S s2 g2 (match S.own s2 with
   |.arr E2 e' m=>(match d with
    |.os s g=>live S s g (match S.own s with
     |.arr E e l=>ao (Nat.beq q.el E&&Nat.beq q2.sz (sz e)&&Nat.beq q2.zs.length (sz e)&&!(Nat.beq (sz e) 0)) (match kg e e' m with
      |some m=>ao (dH (l.length+m.length) q2.bytes) (k (nj S t s (.arr E e (l++m))))
      |none=>none)
     |_=>none)
    |.nil=>ao (Nat.beq q2.sz (sz e')&&Nat.beq q2.zs.length (sz e')&&!(Nat.beq (sz e') 0)) (ao (dH m.length q2.bytes) (k (nj S t t (.arr q.el e' m))))
    |_=>none)
   |_=>none)
  |_=>none))
 |_=>none
theorem agk (hX:At X Z nt) {x y:Operand}{ts:Array TypeId} (ho:o.op=.call { callee:=.builtin .append,args:=#[x,y],argTypes:=ts }) (hd:o.dst=some t) (h:UJ Z S t ts k (S.ev Z nt x) (S.ev Z nt y)=some r):∃ e,k e=some r∧dA X Z nt o S e:=by
 have mx:x∈o.op.operands.toList:=by rw[ho];simp[Op.operands,Call.operands]
 have my:y∈o.op.operands.toList:=by rw[ho];simp[Op.operands,Call.operands]
 have dD:lvl o=2:=by simp[lvl,ho]
 have dS:lvl o≠0:=by rw[dD];simp
 unfold UJ at h
 split at h
 ·rename_i ty CC fW
  replace h:=aq h
  obtain ⟨he,h⟩:=h
  have he:=Nat.eq_of_beq_eq_true he
  subst he
  have fW:ts=#[ty,ty]:=by
   have:ts=ts.toList.toArray:=by simp
   rw[this,fW]
  obtain ⟨q,hq,h9,h⟩:=cg h
  obtain ⟨q2,eS,gS,h⟩:=cg h
  obtain ⟨h3,h⟩:=aq h
  have fy:nth X.Z.bL ty=some q:=by rw[hX.Z];exact hq
  have fU:nth X.Z.bL q.el=some q2:=by rw[hX.Z];exact eS
  split at h
  ·rename_i e' m hy
   split at h
   ·rename_i s g hx
    replace h:=cX h
    obtain ⟨rfl,h⟩:=h
    split at h
    ·rename_i E e l aF
     obtain ⟨hc,h⟩:=aq h
     simp only[Bool.and_eq_true,Bool.not_eq_true']at hc
     obtain ⟨⟨⟨c1,c2⟩,c3⟩,c4⟩:=hc
     have hE:=Nat.eq_of_beq_eq_true c1
     split at h
     ·rename_i m' hm
      obtain ⟨hf,h⟩:=aq h
      simp only[dH,Bool.and_eq_true,decide_eq_true_eq]at hf
      have XZ:S.ev Z nt y=.sl e m':=by rw[hy];exact nZ hm
      refine ⟨_,h,fun h T ha hg=>?_⟩
      rw[← gL (hg _ rfl)]
      have:=anB (S:=T) ho fW hd (ha.ev mx hx) (ha.γ dS mx (eO hx)) ((ha.σ dD mx (eO hx)).trans (by rw[aF];rfl)) (ha.ev my XZ) fy h3 hE (by rw[← hE];exact fU) gS (Nat.eq_of_beq_eq_true c2) c3 c4 hf.1 hf.2
       (f':=fun i=>bN e ((l++m').getD i (bY e))) (n':=(l++m').length) (by simp) (fun i hi=>by
        simp only[List.getD_eq_getElem?_getD];rw[List.getElem?_append_left hi]) (fun i hi=>by
        simp only[List.getD_eq_getElem?_getD];rw[List.getElem?_append_right (by omega),Nat.add_sub_cancel_left])
      exact eK this
     ·cases h
    ·cases h
   ·rename_i hx
    obtain ⟨hc,h⟩:=aq h
    simp only[Bool.and_eq_true,Bool.not_eq_true']at hc
    obtain ⟨⟨c2,c3⟩,c4⟩:=hc
    obtain ⟨hf,h⟩:=aq h
    simp only[dH,Bool.and_eq_true,decide_eq_true_eq]at hf
    refine ⟨_,h,fun h T ha hg=>?_⟩
    rw[← gL (hg _ rfl)]
    exact eK (akR ho fW hd (ha.ev mx hx) (ha.ev my hy) fy h3 rfl fU gS (Nat.eq_of_beq_eq_true c2) c3 c4 hf.1 hf.2)
   ·cases h
  ·rename_i s2 g2 z2 c m hy
   split at h
   ·rename_i s g z c0 kk hx
    replace h:=cX h
    obtain ⟨rfl,h⟩:=h
    split at h
    ·rename_i E e l aF
     obtain ⟨hc,h7⟩:=aq h
     clear h
     simp only[Bool.and_eq_true,Bool.not_eq_true']at hc
     obtain ⟨⟨⟨⟨⟨⟨⟨⟨b1,b2⟩,b3⟩,b4⟩,b5⟩,c1⟩,c2⟩,c3⟩,c4⟩:=hc
     have b1:=Nat.eq_of_beq_eq_true b1
     have b2:=Nat.eq_of_beq_eq_true b2
     have b3:=Nat.eq_of_beq_eq_true b3
     have b4:=Nat.eq_of_beq_eq_true b4
     have b5:=Nat.eq_of_beq_eq_true b5
     subst b1 b2 b3 b4 b5
     have hE:=Nat.eq_of_beq_eq_true c1
     obtain ⟨hl,h8⟩:=aq h7
     simp only[Bool.and_eq_true,decide_eq_true_eq]at hl
     obtain ⟨⟨l1,l2⟩,l3⟩:=hl
     obtain ⟨hf,h5⟩:=aq h8
     simp only[dH,Bool.and_eq_true,decide_eq_true_eq]at hf
     refine ⟨_,h5,fun h T ha hg=>?_⟩
     rw[← gL (hg _ rfl)]
     have pm:∀ {s g z c m:Nat}{x:Operand},S.ev Z nt x=.ow s g z c m→s∈gN (S.ev Z nt x):=fun hx=>by rw[hx];simp[gN]
     have:=akT (S:=T) ho fW hd (ha.ev mx hx) (ha.ev my hy) (ha.γ dS mx (pm hx)) ((ha.σ dD mx (pm hx)).trans (by rw[aF];rfl)) l1 l2 l3 fy h3 hE (by rw[← hE];exact fU) gS (Nat.eq_of_beq_eq_true c2) c3 c4 hf.1 hf.2
      (f':=fun i=>bN e ((l.take kk++(l.drop c).take m).getD i (bY e))) (n':=(l.take kk++(l.drop c).take m).length) (by simp;omega) (fun i hi=>by
       simp only[List.getD_eq_getElem?_getD];rw[List.getElem?_append_left (by simp;omega),List.getElem?_take,if_pos hi]) (fun i hi=>by
       simp only[List.getD_eq_getElem?_getD];rw[List.getElem?_append_right (by simp;omega),List.length_take,Nat.min_eq_left l1,Nat.add_sub_cancel_left,List.getElem?_take,if_pos hi,List.getElem?_drop])
     exact eK this
    ·cases h
   ·cases h
  ·rename_i s2 g2 hy
   replace h:=cX h
   obtain ⟨rfl,h⟩:=h
   split at h
   ·rename_i E2 e' m sk
    split at h
    ·rename_i s g hx
     replace h:=cX h
     obtain ⟨rfl,h⟩:=h
     split at h
     ·rename_i E e l aF
      obtain ⟨hc,h⟩:=aq h
      simp only[Bool.and_eq_true,Bool.not_eq_true']at hc
      obtain ⟨⟨⟨c1,c2⟩,c3⟩,c4⟩:=hc
      have hE:=Nat.eq_of_beq_eq_true c1
      split at h
      ·rename_i m' hm
       have e2:=nZ hm
       simp only[I.sl.injEq]at e2
       obtain ⟨rfl,e2⟩:=e2
       have e2:=eq_of_heq e2
       subst e2
       obtain ⟨hf,h⟩:=aq h
       simp only[dH,Bool.and_eq_true,decide_eq_true_eq]at hf
       refine ⟨_,h,fun h T ha hg=>?_⟩
       rw[← gL (hg _ rfl)]
       have:=Ra (S:=T) ho fW hd (.inl ⟨ha.ev mx hx,ha.γ dS mx (eO hx),(ha.σ dD mx (eO hx)).trans (by rw[aF];rfl)⟩) (ha.ev my hy) (ha.γ dS my (eO hy)) ((ha.σ dD my (eO hy)).trans (by rw[sk];rfl)) fy h3 hE (by rw[← hE];exact fU) gS (Nat.eq_of_beq_eq_true c2) c3 c4 hf.1 hf.2
        (f':=fun i=>bN e' ((l++m).getD i (bY e'))) (n':=(l++m).length) (by simp) (fun i hi=>by
         simp only[List.getD_eq_getElem?_getD];rw[List.getElem?_append_left hi]) (fun i hi=>by
         simp only[List.getD_eq_getElem?_getD];rw[List.getElem?_append_right (by omega),Nat.add_sub_cancel_left])
       exact eK this
      ·cases h
     ·cases h
    ·rename_i hx
     obtain ⟨hc,h⟩:=aq h
     simp only[Bool.and_eq_true,Bool.not_eq_true']at hc
     obtain ⟨⟨c2,c3⟩,c4⟩:=hc
     obtain ⟨hf,h⟩:=aq h
     simp only[dH,Bool.and_eq_true,decide_eq_true_eq]at hf
     refine ⟨_,h,fun h T ha hg=>?_⟩
     rw[← gL (hg _ rfl)]
     have:=Ra (S:=T) (n:=0) (f:=fun _=>[]) (g:=0) ho fW hd (.inr ⟨ha.ev mx hx,rfl,rfl⟩) (ha.ev my hy) (ha.γ dS my (eO hy)) ((ha.σ dD my (eO hy)).trans (by rw[sk];rfl)) fy h3 rfl fU gS (Nat.eq_of_beq_eq_true c2) c3 c4 (by simpa using hf.1) (by simpa using hf.2)
      (f':=fun i=>bN e' (m.getD i (bY e'))) (n':=m.length) (by simp) (fun i hi=>by omega) (fun i hi=>by rw[Nat.zero_add])
     exact eK this
    ·cases h
   ·cases h
  ·cases h
 ·cases h
def rb {α:Type} (l:List α) (i j:Int):List α:=(l.take j.toNat).drop i.toNat
theorem DR {α:Type}{l:List α}{i j:Int} (h0:0≤i) (h1:i≤j) (h2:j≤l.length):(rb l i j).length=j.toNat - i.toNat:=by
 simp only[rb,List.length_drop,List.length_take];omega
theorem DQ {α:Type}{l:List α}{i j:Int}{d:α}{k:Nat} (hk:k<j.toNat - i.toNat):(rb l i j).getD k d=l.getD (i.toNat+k) d:=by
 simp only[rb,List.getD_eq_getElem?_getD,List.getElem?_drop,List.getElem?_take]
 rw[if_pos (by omega)]
def xe (Z:aX) (nt:Nat) (S:IS) (v:Option Operand) (d:Int) (k:Int→Option R):Option R:=match v with
 |none=>k d
 |some y=>(match S.ev Z nt y with|.int .i64 i=>k i|_=>none)
theorem qH {v:Option Operand}{d:Nat}{k:Int→Option R} (h:xe Z nt S v d k=some r):∃ i:Int,k i=some r∧((v=none∧i=d)∨∃ y,v=some y∧S.ev Z nt y=.int .i64 i):=by
 unfold xe at h
 split at h
 ·exact⟨_,h,.inl ⟨rfl,rfl⟩⟩
 ·rename_i y
  split at h
  ·rename_i i hy;exact⟨i,h,.inr ⟨y,rfl,hy⟩⟩
  ·cases h
def U5 (Z:aX) (nt:Nat) (S:IS) (fz:List Nat) (t ty:Nat) (lo hi:Option Operand) (k:Ef→Option R) (d:I):Option R:=rowOf Z ty fun q=>rowOf Z q.el fun q2=>ao (Nat.beq q.k 3) (match d with
 |.sl e l=>ao (Nat.beq q2.sz (sz e)) (xe Z nt S lo (0:Nat) fun i=>xe Z nt S hi l.length fun j=>ao (decide (0≤i)&&decide (i≤j)&&decide (j≤l.length)) (k (vE t (.sl e (rb l i j)))))
 |.os s g=>live S s g (match S.own s with
  |.arr E e l=>ao (Nat.beq q.el E&&Nat.beq q2.sz (sz e)) (xe Z nt S lo (0:Nat) fun i=>xe Z nt S hi l.length fun j=>ao (decide (0≤i)&&decide (i≤j)&&decide (j≤l.length)) (bif bc t fz then k (vE t (.ow s g (sz e) i.toNat (j.toNat - i.toNat))) else k (nj S t s (.arr E e (rb l i j)))))
  |_=>none)
 |_=>none)
theorem nD {h:Nat→Nat}{T:St} (ha:Ag X Z nt S h T o) {v:Option Operand}{i:Int}{d:Nat} (h0:0≤i) (hm:∀ y,v=some y→y∈o.op.operands.toList) (hv:(v=none∧i=d)∨∃ y,v=some y∧S.ev Z nt y=.int .i64 i):sd X T v i.toNat d:=by
 rcases hv with ⟨rfl,rfl⟩|⟨y,rfl,hy⟩
 ·exact .inl ⟨rfl,by simp⟩
 ·exact .inr ⟨y,rfl,by rw[ha.ev (hm y rfl) hy,Int.toNat_of_nonneg h0];rfl⟩
def as8 (s:ByteArray) (i j:Int):ByteArray:=OJ s i.toNat j.toNat
def Kd (Z:aX) (nt:Nat) (S:IS) (t ty:Nat) (lo hi:Option Operand) (k:Ef→Option R) (s:ByteArray):Option R:=ao (Z.Fx ty) (xe Z nt S lo (0:Nat) fun i=>xe Z nt S hi s.size fun j=>ao (decide (0≤i)&&decide (i≤j)&&decide (j≤s.size)) (k (vE t (.str (as8 s i j)))))
theorem abJ (hX:At X Z nt) {ty:Nat}{x:Operand}{lo hi:Option Operand}{s:ByteArray} (ho:o.op=.slice ty x lo hi none) (hd:o.dst=some t) (hx:S.ev Z nt x=.str s) (h:Kd Z nt S t ty lo hi k s=some r):∃ e,k e=some r∧dA X Z nt o S e:=by
 have mx:x∈o.op.operands.toList:=by rw[ho];cases lo<;>cases hi<;>simp[Op.operands]
 have ml:∀ y,lo=some y→y∈o.op.operands.toList:=fun y e=>by rw[ho,e];cases hi<;>simp[Op.operands]
 have mh:∀ y,hi=some y→y∈o.op.operands.toList:=fun y e=>by rw[ho,e];cases lo<;>simp[Op.operands]
 unfold Kd at h
 obtain ⟨hS,h⟩:=aq h
 obtain ⟨i,h,gj⟩:=qH h
 obtain ⟨j,h,QP⟩:=qH h
 obtain ⟨hc,h⟩:=aq h
 simp only[Bool.and_eq_true,decide_eq_true_eq]at hc
 obtain ⟨⟨h0,h1⟩,h2⟩:=hc
 refine ⟨_,h,dJ hd fun h T ha=>?_⟩
 exact aoe (S:=T) (i:=i.toNat) (j:=j.toNat) ho (ha.ev mx hx) (nD ha h0 ml gj) (nD ha (by omega) mh QP) (by omega) (by omega) (by rw[hX.Z];exact Z.tK _ hS)
theorem agG (hX:At X Z nt) {fz:List Nat}{ty:Nat}{x:Operand}{lo hi:Option Operand} (ho:o.op=.slice ty x lo hi none) (hd:o.dst=some t) (h:U5 Z nt S fz t ty lo hi k (S.ev Z nt x)=some r):∃ e,k e=some r∧dA X Z nt o S e:=by
 have mx:x∈o.op.operands.toList:=by rw[ho];cases lo<;>cases hi<;>simp[Op.operands]
 have ml:∀ y,lo=some y→y∈o.op.operands.toList:=fun y e=>by rw[ho,e];cases hi<;>simp[Op.operands]
 have mh:∀ y,hi=some y→y∈o.op.operands.toList:=fun y e=>by rw[ho,e];cases lo<;>simp[Op.operands]
 have dD:lvl o=2:=by simp[lvl,ho]
 have dS:lvl o≠0:=by rw[dD];simp
 unfold U5 at h
 obtain ⟨q,hq,h9,h⟩:=cg h
 obtain ⟨q2,eS,gS,h⟩:=cg h
 obtain ⟨h3,h⟩:=aq h
 have fy:nth X.Z.bL ty=some q:=by rw[hX.Z];exact hq
 have fU:nth X.Z.bL q.el=some q2:=by rw[hX.Z];exact eS
 split at h
 ·rename_i e l hx
  obtain ⟨c2,h⟩:=aq h
  obtain ⟨i,h,gj⟩:=qH h
  obtain ⟨j,h,QP⟩:=qH h
  obtain ⟨hc,h⟩:=aq h
  simp only[Bool.and_eq_true,decide_eq_true_eq]at hc
  obtain ⟨⟨h0,h1⟩,h2⟩:=hc
  refine ⟨_,h,dJ hd fun h T ha=>?_⟩
  have:=aod (S:=T) (i:=i.toNat) (j:=j.toNat) ho (ha.ev mx hx) (nD ha h0 ml gj) (nD ha (by omega) mh QP) (by omega) (by omega) fy h3 fU gS (Nat.eq_of_beq_eq_true c2) (f':=fun k=>bN e ((rb l i j).getD k (bY e))) (fun k hk=>by rw[DQ hk])
  rw[← DR h0 h1 h2]at this
  exact this
 ·rename_i s g hx
  replace h:=cX h
  obtain ⟨rfl,h⟩:=h
  split at h
  ·rename_i E e l aF
   obtain ⟨hc,h⟩:=aq h
   simp only[Bool.and_eq_true]at hc
   obtain ⟨i,h,gj⟩:=qH h
   obtain ⟨j,h,QP⟩:=qH h
   obtain ⟨Ce,h⟩:=aq h
   simp only[Bool.and_eq_true,decide_eq_true_eq]at Ce
   obtain ⟨⟨h0,h1⟩,h2⟩:=Ce
   have hE:=Nat.eq_of_beq_eq_true hc.1
   cases hmf:bc t fz with
   |true =>
    rw[hmf]at h
    simp only[cond_true]at h
    exact⟨_,h,dJ hd fun h T ha=>aof (S:=T) (i:=i.toNat) (j:=j.toNat) ho (ha.ev mx hx) (ha.γ dS mx (eO hx)) ((ha.σ dD mx (eO hx)).trans (by rw[aF];rfl)) (nD ha h0 ml gj) (nD ha (by omega) mh QP) (by omega) (by omega) fy h3 fU gS (Nat.eq_of_beq_eq_true hc.2)⟩
   |false =>
   rw[hmf]at h
   simp only[cond_false]at h
   refine ⟨_,h,fun h T ha hg=>?_⟩
   rw[← gL (hg _ rfl)]
   exact eK (anF (S:=T) (i:=i.toNat) (j:=j.toNat) ho hd (ha.ev mx hx) (ha.γ dS mx (eO hx)) ((ha.σ dD mx (eO hx)).trans (by rw[aF];rfl)) (nD ha h0 ml gj) (nD ha (by omega) mh QP) (by omega) (by omega) fy h3 hE (by rw[← hE];exact fU) gS (Nat.eq_of_beq_eq_true hc.2) (DR h0 h1 h2) (f':=fun k=>bN e ((rb l i j).getD k (bY e))) (fun k hk=>by rw[DQ hk]))
  ·cases h
 ·cases h
def Kc (Z:aX) (nt:Nat) (S:IS) (t ty:Nat) (lo hi:Option Operand) (mx:Operand) (k:Ef→Option R) (d:I):Option R:=rowOf Z ty fun q=>rowOf Z q.el fun q2=>ao (Nat.beq q.k 3) (match d with
 |.sl e l=>(match hi with|none=>none|some hj=>ao (Nat.beq q2.sz (sz e)) (xe Z nt S lo (0:Nat) fun i=>match S.ev Z nt hj,S.ev Z nt mx with
  |.int .i64 j,.int .i64 m=>ao (decide (0≤i)&&decide (i≤j)&&decide (j≤m)&&decide (m≤l.length)) (k (vE t (.sl e (rb l i j))))
  |_,_=>none))
 |_=>none)
theorem abI (hX:At X Z nt) {ty:Nat}{x mx:Operand}{lo hi:Option Operand} (ho:o.op=.slice ty x lo hi (some mx)) (hd:o.dst=some t) (h:Kc Z nt S t ty lo hi mx k (S.ev Z nt x)=some r):∃ e,k e=some r∧dA X Z nt o S e:=by
 unfold Kc at h
 obtain ⟨q,hq,h9,h⟩:=cg h
 obtain ⟨q2,eS,gS,h⟩:=cg h
 obtain ⟨h3,h⟩:=aq h
 have fy:nth X.Z.bL ty=some q:=by rw[hX.Z];exact hq
 have fU:nth X.Z.bL q.el=some q2:=by rw[hX.Z];exact eS
 cases hi with
 |none=>split at h<;>cases h
 |some hj =>
 split at h
 ·rename_i e l hx
  have mx0:x∈o.op.operands.toList:=by rw[ho];cases lo<;>simp[Op.operands]
  have ml:∀ y,lo=some y→y∈o.op.operands.toList:=fun y e=>by rw[ho,e];simp[Op.operands]
  have mh:hj∈o.op.operands.toList:=by rw[ho];cases lo<;>simp[Op.operands]
  have mm:mx∈o.op.operands.toList:=by rw[ho];cases lo<;>simp[Op.operands]
  obtain ⟨c2,h⟩:=aq h
  obtain ⟨i,h,gj⟩:=qH h
  split at h
  ·rename_i j m hje hme
   obtain ⟨hc,h⟩:=aq h
   simp only[Bool.and_eq_true,decide_eq_true_eq]at hc
   obtain ⟨⟨⟨h0,h1⟩,h2⟩,h4⟩:=hc
   refine ⟨_,h,dJ hd fun h T ha=>?_⟩
   have e1:T.ev X hj=.int .i64 (j.toNat:Int):=by rw[ha.ev mh hje,Int.toNat_of_nonneg (by omega)];rfl
   have e2:T.ev X mx=.int .i64 (m.toNat:Int):=by rw[ha.ev mm hme,Int.toNat_of_nonneg (by omega)];rfl
   have:=alD (S:=T) (i:=i.toNat) (j:=j.toNat) (m:=m.toNat) ho (ha.ev mx0 hx) (nD ha h0 ml gj) e1 e2 (by omega) (by omega) (by omega) fy h3 fU gS (Nat.eq_of_beq_eq_true c2) (f':=fun k=>bN e ((rb l i j).getD k (bY e))) (fun k hk=>by rw[DQ hk])
   rw[← DR h0 h1 (show j≤(l.length:Int) by omega)]at this
   exact this
  ·cases h
 ·cases h
def tf {α:Type} (v:α) (l:List α) (a m:Nat):List α:=l.take a++List.replicate m v++l.drop (a+m)
theorem aah {α:Type}{v:α}{l:List α}{a m:Nat} (h:a+m≤l.length):(tf v l a m).length=l.length:=by simp only[tf,List.length_append,List.length_take,List.length_replicate,List.length_drop];omega
theorem afe {α:Type}{v:α}{l:List α}{a m i:Nat} (h:a+m≤l.length) (hi:a≤i∧i<a+m) (d:α):(tf v l a m).getD i d=v:=by
 simp only[tf,List.getD_eq_getElem?_getD]
 rw[List.getElem?_append_left (by simp;omega),List.getElem?_append_right (by simp;omega),List.getElem?_replicate,if_pos (by simp;omega)];rfl
theorem aai {α:Type}{v:α}{l:List α}{a m i:Nat} (h:a+m≤l.length) (hi:¬(a≤i∧i<a+m)) (d:α):(tf v l a m).getD i d=l.getD i d:=by
 simp only[tf,List.getD_eq_getElem?_getD]
 by_cases h1:i<a
 ·rw[List.getElem?_append_left (by simp;omega),List.getElem?_append_left (by simp;omega),List.getElem?_take,if_pos h1]
 ·rw[List.getElem?_append_right (by simp;omega),List.getElem?_drop]
  simp only[List.length_append,List.length_take,List.length_replicate]
  congr 2;omega
def J7 (Z:aX) (S:IS) (ts:Array TypeId) (k:Ef→Option R) (d:I):Option R:=match ts.toList with
 |[ty]=>rowOf Z ty fun q=>rowOf Z q.el fun q2=>ao (Nat.beq q.k 3) (match d with
  |.ow s g z a m=>live S s g (match S.own s with
   |.arr E e l=>(match ew e (q2.zs.map zI) with
    |some v=>ao (Nat.beq q.el E&&Nat.beq z (sz e)&&Nat.beq q2.sz (sz e)&&Nat.beq q2.zs.length (sz e)) (ao (decide (a+m≤l.length)) (k (po s (.arr E e (tf v l a m)))))
    |none=>none)
   |_=>none)
  |_=>none)
 |_=>none
theorem abz (hX:At X Z nt) {x:Operand}{ts:Array TypeId} (ho:o.op=.call { callee:=.builtin .clear,args:=#[x],argTypes:=ts }) (hd:o.dst=none) (h:J7 Z S ts k (S.ev Z nt x)=some r):∃ e,k e=some r∧dA X Z nt o S e:=by
 have mx:x∈o.op.operands.toList:=by rw[ho];simp[Op.operands,Call.operands]
 have dD:lvl o=2:=by simp[lvl,ho]
 have dS:lvl o≠0:=by rw[dD];simp
 unfold J7 at h
 split at h
 ·rename_i ty fW
  have fW:ts=#[ty]:=by
   have:ts=ts.toList.toArray:=by simp
   rw[this,fW]
  obtain ⟨q,hq,h9,h⟩:=cg h
  obtain ⟨q2,eS,gS,h⟩:=cg h
  obtain ⟨h3,h⟩:=aq h
  have fy:nth X.Z.bL ty=some q:=by rw[hX.Z];exact hq
  have fU:nth X.Z.bL q.el=some q2:=by rw[hX.Z];exact eS
  split at h
  ·rename_i s g z a m hx
   replace h:=cX h
   obtain ⟨rfl,h⟩:=h
   split at h
   ·rename_i E e l aF
    split at h
    ·rename_i v hv
     have hq3:=aq h
     clear h
     obtain ⟨hc,h⟩:=hq3
     simp only[Bool.and_eq_true]at hc
     obtain ⟨⟨⟨c1,c2⟩,c3⟩,c4⟩:=hc
     have hE:=Nat.eq_of_beq_eq_true c1
     have c2:=Nat.eq_of_beq_eq_true c2
     subst c2
     have hq4:=aq h
     clear h
     obtain ⟨yi,h⟩:=hq4
     have yi:=of_decide_eq_true yi
     refine ⟨_,h,fun h T ha hg=>?_⟩
     have pm:s∈gN (S.ev Z nt x):=by rw[hx];simp[gN]
     have tJ:T.σ s=.arr E (sz e) l.length (fun i=>bN e (l.getD i (bY e))):=(ha.σ dD mx pm).trans (by rw[aF];rfl)
     have:=abm (S:=T) ho fW hd (ha.ev mx hx) (ha.γ dS mx pm) tJ yi fy h3 hE (by rw[← hE];exact fU) gS (Nat.eq_of_beq_eq_true c3) c4
      (f':=fun i=>if a≤i∧i<a+m then q2.zs.map Zr.toD else bN e (l.getD i (bY e))) (fun i _ hi=>if_pos hi) (fun i _ hi=>if_neg hi)
     refine sa.wk (eK this) ?_
     have hw:=HF (X:=X) (S:=⟨T.ρ,T.γ,aG T.σ s (.arr E (sz e) l.length (fun i=>if a≤i∧i<a+m then q2.zs.map Zr.toD else bN e (l.getD i (bY e))))⟩) s (E:=E) (z:=sz e) (n:=l.length) (f:=fun i=>if a≤i∧i<a+m then q2.zs.map Zr.toD else bN e (l.getD i (bY e))) (fun i=>bN e ((tf v l a m).getD i (bY e))) (aC _ _ _) (fun i hi=>by
      by_cases e1:a≤i∧i<a+m
      ·rw[if_pos e1,afe yi e1,← s6 h,← bd h]
       exact eE h (cM e hv)
      ·rw[if_neg e1,aai yi e1]
       exact Ai _)
     have e2:(⟨T.ρ,T.γ,aG (aG T.σ s (.arr E (sz e) l.length (fun i=>if a≤i∧i<a+m then q2.zs.map Zr.toD else bN e (l.getD i (bY e))))) s (.arr E (sz e) l.length (fun i=>bN e ((tf v l a m).getD i (bY e))))⟩:St)=T.app (po s (.arr E e (tf v l a m))).wr ((po s (.arr E e (tf v l a m))).vl h):=by
      unfold St.app po Ef.wr Ef.vl
      simp only[Option.map_some,Option.map_none,vL,aK.toOwn,aah yi]
      congr 1
      funext j
      simp only[aG]
      cases Nat.beq j s<;>rfl
     rw[e2]at hw
     exact hw
    ·cases h
   ·cases h
  ·cases h
 ·cases h
def tg {α:Type} (l m:List α):List α:=m.take l.length++l.drop m.length
theorem afg {α:Type} (l m:List α):(tg l m).length=l.length:=by simp only[tg,List.length_append,List.length_take,List.length_drop];omega
theorem ahT {α:Type}{l m:List α}{d:α}{i:Nat} (h:i<Nat.min m.length l.length):(tg l m).getD i d=m.getD i d:=by
 have h1:i<m.length:=Nat.lt_of_lt_of_le h (Nat.min_le_left _ _)
 have h2:i<l.length:=Nat.lt_of_lt_of_le h (Nat.min_le_right _ _)
 simp only[tg,List.getD_eq_getElem?_getD]
 rw[List.getElem?_append_left (by rw[List.length_take];omega),List.getElem?_take,if_pos h2]
theorem ahS {α:Type}{l m:List α}{d:α}{i:Nat} (h:Nat.min m.length l.length≤i) (hi:i<l.length):(tg l m).getD i d=l.getD i d:=by
 have h0:Nat.min m.length l.length=min m.length l.length:=rfl
 have h1:m.length≤i:=by omega
 simp only[tg,List.getD_eq_getElem?_getD]
 rw[List.getElem?_append_right (by rw[List.length_take];omega),List.getElem?_drop,List.length_take]
 congr 2;omega
def UO (Z:aX) (S:IS) (t:Nat) (ts:Array TypeId) (k:Ef→Option R) (d y:I):Option R:=match ts.toList with
 |[ty,_]=>rowOf Z ty fun q=>rowOf Z q.el fun q2=>ao (Nat.beq q.k 3) (match y with
  |.sl e' m=>(match d with
   |.os s g=>live S s g (match S.own s with
    |.arr E e l=>ao (Nat.beq q.el E&&Nat.beq q2.sz (sz e)&&!(Nat.beq (sz e) 0)) (match kg e e' m with
     |some m=>k ⟨some t,.int .i64 (Nat.min m.length l.length:Nat),none,some (s,.arr E e (tg l m))⟩
     |none=>none)
    |_=>none)
   |_=>none)
  |_=>none)
 |_=>none
theorem agp (hX:At X Z nt) {x y:Operand}{ts:Array TypeId} (ho:o.op=.call { callee:=.builtin .copy,args:=#[x,y],argTypes:=ts }) (hd:o.dst=some t) (h:UO Z S t ts k (S.ev Z nt x) (S.ev Z nt y)=some r):∃ e,k e=some r∧dA X Z nt o S e:=by
 have mx:x∈o.op.operands.toList:=by rw[ho];simp[Op.operands,Call.operands]
 have my:y∈o.op.operands.toList:=by rw[ho];simp[Op.operands,Call.operands]
 have dD:lvl o=2:=by simp[lvl,ho]
 have dS:lvl o≠0:=by rw[dD];simp
 unfold UO at h
 split at h
 ·rename_i ty CC fW
  have fW:ts=#[ty,CC]:=by
   have:ts=ts.toList.toArray:=by simp
   rw[this,fW]
  obtain ⟨q,hq,h9,h⟩:=cg h
  obtain ⟨q2,eS,gS,h⟩:=cg h
  obtain ⟨h3,h⟩:=aq h
  have fy:nth X.Z.bL ty=some q:=by rw[hX.Z];exact hq
  have fU:nth X.Z.bL q.el=some q2:=by rw[hX.Z];exact eS
  split at h
  ·rename_i e' m hy
   split at h
   ·rename_i s g hx
    replace h:=cX h
    obtain ⟨rfl,h⟩:=h
    split at h
    ·rename_i E e l aF
     obtain ⟨hc,h⟩:=aq h
     simp only[Bool.and_eq_true,Bool.not_eq_true']at hc
     obtain ⟨⟨c1,c2⟩,c4⟩:=hc
     have hE:=Nat.eq_of_beq_eq_true c1
     split at h
     ·rename_i m' hm
      have XZ:S.ev Z nt y=.sl e m':=by rw[hy];exact nZ hm
      refine ⟨_,h,fun h T ha hg=>?_⟩
      have:=akW (S:=T) ho fW hd (ha.ev mx hx) (ha.γ dS mx (eO hx)) ((ha.σ dD mx (eO hx)).trans (by rw[aF];rfl)) (ha.ev my XZ) fy h3 hE (by rw[← hE];exact fU) gS (Nat.eq_of_beq_eq_true c2) c4 rfl
       (f':=fun i=>bN e ((tg l m').getD i (bY e))) (fun i hi=>by rw[ahT hi]) (fun i h1 h2=>by rw[ahS h1 h2])
      have h0:=eK this
      have e0:(⟨aG T.ρ t (.int .i64 (Nat.min m'.length l.length:Nat)),T.γ,aG T.σ s (.arr E (sz e) l.length (fun i=>bN e ((tg l m').getD i (bY e))))⟩:St)=T.app (Ef.wr ⟨some t,.int .i64 (Nat.min m'.length l.length:Nat),none,some (s,.arr E e (tg l m'))⟩) (Ef.vl h ⟨some t,.int .i64 (Nat.min m'.length l.length:Nat),none,some (s,.arr E e (tg l m'))⟩):=by
       show _=(⟨aG T.ρ t _,T.γ,aG T.σ s (.arr E (sz e) (tg l m').length _)⟩:St)
       rw[afg];rfl
      rw[← e0]
      exact h0
     ·cases h
    ·cases h
   ·cases h
  ·cases h
 ·cases h
end
end
end Go.Ab
