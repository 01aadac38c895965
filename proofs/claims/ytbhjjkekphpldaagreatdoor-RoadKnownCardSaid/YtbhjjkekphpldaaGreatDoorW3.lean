/- Walks by computing: what each function of the program that the laws reach gives for what it gets, as plain Lean, and that it is so; without a condition but those that stand in each theorem. -/
import Derived.MapKept
import Derived.MapFrom
import Derived.Carry
import Derived.Scope
import Derived.Lib.AppendStr
import Derived.Laws.Concat
import Derived.Test.YtbhjjkekphpldaaGreatDoorW1
import Derived.Test.YtbhjjkekphpldaaGreatDoorW2
set_option linter.all false
namespace Go.Ab
open Go Go.RowKit
set_option linter.all false
def XB:Nat:=900000000
def gM (q:Nat→Nat):Nat→Nat→Nat
 |0=>fun _=>0
 |n+1=>fun s=>bif Nat.beq s (q n) then 1 else gM q n s
theorem gM_lt {q:Nat→Nat}:∀ {n i:Nat},i<n→gM q n (q i)=1
 |n+1,i,h=>by
  simp only[gM]
  cases hb:Nat.beq (q i) (q n) with
  |true=>rfl
  |false =>
   have hne:i≠n:=fun e=>by rw[e,Nat.beq_refl]at hb;cases hb
   exact gM_lt (by omega)
def ownF (q:Nat→Nat) (os:Nat→Own):Nat→Nat→Own
 |0=>fun _=>.none
 |n+1=>fun s=>bif Nat.beq s (q n) then os n else ownF q os n s
theorem ownF_in {q:Nat→Nat}{os:Nat→Own}:∀ {n:Nat}{s:Nat},(∃ i,i<n∧s=q i∧ownF q os n s=os i)∨ownF q os n s=.none
 |0,s=>.inr rfl
 |n+1,s=>by
  simp only[ownF]
  cases hb:Nat.beq s (q n) with
  |true=>exact .inl ⟨n,Nat.lt_succ_self _,Nat.eq_of_beq_eq_true hb,rfl⟩
  |false =>
   rcases @ownF_in q os n s with ⟨i,h1,h2,h3⟩|h
   ·exact .inl ⟨i,by omega,h2,h3⟩
   ·exact .inr h
theorem ownF_lt {q:Nat→Nat}{os:Nat→Own}:∀ {n i:Nat},(∀ i j,i<n→j<n→q i=q j→i=j)→i<n→ownF q os n (q i)=os i
 |n+1,i,hq,h=>by
  simp only[ownF]
  cases hb:Nat.beq (q i) (q n) with
  |true=>rw[hq i n h (Nat.lt_succ_self _) (Nat.eq_of_beq_eq_true hb)];rfl
  |false =>
   have hne:i≠n:=fun e=>by rw[e,Nat.beq_refl]at hb;cases hb
   exact ownF_lt (fun a b ha hb=>hq a b (by omega) (by omega)) (by omega)
mutual
inductive Rn (n:Nat) (p g p' g':Nat→Nat):D→D→Prop
 |pure (d:D):Pure d→Rn n p g p' g' d d
 |bx (i o:Nat):i<n→Rn n p g p' g' (.bx (p i) (g i) o) (.bx (p' i) (g' i) o)
 |os (i:Nat):i<n→Rn n p g p' g' (.os (p i) (g i)) (.os (p' i) (g' i))
 |mb (i:Nat) (T:TypeId):i<n→Rn n p g p' g' (.mb (p i) (g i) T) (.mb (p' i) (g' i) T)
 |agg (l l':List D):RnL n p g p' g' l l'→Rn n p g p' g' (.agg l) (.agg l')
 |fn (f:FuncId) (c c':List D):RnL n p g p' g' c c'→Rn n p g p' g' (.fn f c) (.fn f c')
inductive RnL (n:Nat) (p g p' g':Nat→Nat):List D→List D→Prop
 |nil:RnL n p g p' g' [] []
 |cons (d d':D) (l l':List D):Rn n p g p' g' d d'→RnL n p g p' g' l l'→RnL n p g p' g' (d::l) (d'::l')
end
section
variable {κ κ':Nat→Nat→Option Value}{γ γ':Nat→Nat}{sv sv':Nat→Value}{n:Nat}{p g p' g':Nat→Nat}
mutual
theorem Rn.rep (hκ:∀ b o v,κ b o=some v→κ' b o=some v) (h1:∀ i,i<n→γ (p i)=g i) (h2:∀ i,i<n→γ' (p' i)=g' i) (h3:∀ i,i<n→sv (p i)=sv' (p' i)):∀ {d d':D}{v:Value},Rn n p g p' g' d d'→Rep κ γ sv d v→Rep κ' γ' sv' d' v
 |_,_,_,.pure d hd,hr=>hr.pure hκ hd
 |_,_,_,.bx i o hi,hr=>by
  cases hr with
  |bx _ _ _ _ a b c =>
   obtain ⟨b1,e1,e2⟩:=b (h1 i hi).symm
   exact .bx _ _ _ _ (Nat.le_of_eq (h2 i hi).symm) (fun _=>⟨b1,by rw[← h3 i hi];exact e1,e2⟩) c
 |_,_,_,.os i hi,hr=>by
  cases hr with
  |os _ _ _ a b c=>exact .os _ _ _ (Nat.le_of_eq (h2 i hi).symm) (fun _=>by rw[← h3 i hi];exact b (h1 i hi).symm) c
 |_,_,_,.mb i T hi,hr=>by
  cases hr with
  |mbn=>exact .mbn _ _ _
  |mb _ _ _ _ a b c=>exact .mb _ _ _ _ (Nat.le_of_eq (h2 i hi).symm) (fun _=>by rw[← h3 i hi];exact b (h1 i hi).symm) c
 |_,_,_,.agg l l' hl,hr=>by
  cases hr with
  |agg _ vs hv=>exact .agg _ _ (RnL.rep hκ h1 h2 h3 hl hv)
 |_,_,_,.fn f c c' hl,hr=>by
  cases hr with
  |fn _ _ vs hv=>exact .fn _ _ _ (RnL.rep hκ h1 h2 h3 hl hv)
theorem RnL.rep (hκ:∀ b o v,κ b o=some v→κ' b o=some v) (h1:∀ i,i<n→γ (p i)=g i) (h2:∀ i,i<n→γ' (p' i)=g' i) (h3:∀ i,i<n→sv (p i)=sv' (p' i)):∀ {l l':List D}{vs:List Value},RnL n p g p' g' l l'→RepL κ γ sv l vs→RepL κ' γ' sv' l' vs
 |_,_,_,.nil,hr=>by cases hr;exact .nil
 |_,_,_,.cons d d' l l' a b,hr=>by
  cases hr with
  |cons _ _ _ _ r1 r2=>exact .cons _ _ _ _ (Rn.rep hκ h1 h2 h3 a r1) (RnL.rep hκ h1 h2 h3 b r2)
end
end
theorem rn_cell {n:Nat}{p g p' g':Nat→Nat}{d d':D} (h:Rn n p g p' g' d d'):d'.isCell=d.isCell:=by cases h<;>rfl
theorem rnL_cell {n:Nat}{p g p' g':Nat→Nat}:∀ {l l':List D},RnL n p g p' g' l l'→allCell l=true→allCell l'=true
 |_,_,.nil,h=>h
 |_,_,.cons d d' l l' a b,h=>by
  simp only[allCell,Bool.and_eq_true]at h ⊢
  exact⟨by rw[rn_cell a];exact h.1,rnL_cell b h.2⟩
theorem rn_mb {n:Nat}{p g p' g':Nat→Nat}{l l':List D} (h:RnL n p g p' g' l l'):mbT l'=mbT l:=by
 cases h with
 |nil=>rfl
 |cons d d' l l' a b=>cases a with
  |pure _ hd=>cases hd<;>rfl
  |_=>rfl
theorem rnL_okB {n:Nat}{p g p' g':Nat→Nat}{l l':List D}{T:TypeId} (h:RnL n p g p' g' l l') (e:OkB l T):OkB l' T:=⟨rnL_cell h e.1,fun T0 e0=>e.2 T0 ((rn_mb h).symm.trans e0)⟩
inductive OwRn (n:Nat) (p g p' g':Nat→Nat):Own→Own→Prop
 |box (l l':List D):RnL n p g p' g' l l'→OwRn n p g p' g' (.box l) (.box l')
 |arr (E z m:Nat) (f f':Nat→List D):(∀ i,i<m→RnL n p g p' g' (f i) (f' i))→OwRn n p g p' g' (.arr E z m f) (.arr E z m f')
 |none:OwRn n p g p' g' .none .none
theorem rnLp {n:Nat}{p g p' g':Nat→Nat}:∀ {l:List D},PureL l→RnL n p g p' g' l l
 |[],_=>.nil
 |d::l,h=>.cons _ _ _ _ (.pure _ (h d (List.mem_cons_self ..))) (rnLp fun x hx=>h x (List.mem_cons_of_mem _ hx))
theorem OwRn.arrP {n:Nat}{p g p' g':Nat→Nat} (E z m:Nat) (f:Nat→List D) (h:∀ i,i<m→PureL (f i)):OwRn n p g p' g' (.arr E z m f) (.arr E z m f):=.arr _ _ _ _ _ fun i hi=>rnLp (h i hi)
theorem rnL_len {n:Nat}{p g p' g':Nat→Nat}:∀ {l l':List D},RnL n p g p' g' l l'→l'.length=l.length
 |_,_,.nil=>rfl
 |_,_,.cons _ _ _ _ _ b=>by simp[rnL_len b]
theorem OwRn.owns {κ κ':Nat→Nat→Option Value}{γ γ':Nat→Nat}{sv sv':Nat→Value}{n:Nat}{p g p' g':Nat→Nat}{w:World} (hκ:∀ b o v,κ b o=some v→κ' b o=some v) (h1:∀ i,i<n→γ (p i)=g i) (h2:∀ i,i<n→γ' (p' i)=g' i) (h3:∀ i,i<n→sv (p i)=sv' (p' i)) {s s':Nat} (hs:sv s=sv' s') {base base':Nat}{o o':Own} (hb:∀ E z m f b,o=.arr E z m f→blk o (sv s)=some b→base'≤b) (h:OwRn n p g p' g' o o') (ho:Owns base κ γ sv w s o):Owns base' κ' γ' sv' w s' o':=by
 cases h with
 |box l l' hl =>
  obtain ⟨b,T,cs,e1,e2,e3,e4⟩:=ho
  exact⟨b,T,cs,by rw[← hs];exact e1,e2,hl.rep hκ h1 h2 h3 e3,rnL_okB hl e4⟩
 |arr E z m f f' hf =>
  obtain ⟨xs,e1,e2,e3,e4⟩:=ho
  refine ⟨xs,?_,fun i hi=>by rw[rnL_len (hf i hi)];exact e2 i hi,fun i hi=>rnL_cell (hf i hi) (e3 i hi),fun i hi=>(hf i hi).rep hκ h1 h2 h3 (e4 i hi)⟩
  rw[← hs]
  refine ⟨e1.1,?_⟩
  rcases e1.2 with hn|⟨g,off,cap,cur,q1,q2,rest⟩
  ·exact .inl hn
  ·exact .inr ⟨g,off,cap,cur,q1,hb E z m f g rfl (by rw[q1];rfl),rest⟩
 |none=>trivial
theorem OwRn.blk {n:Nat}{p g p' g':Nat→Nat}{o o':Own} (h:OwRn n p g p' g' o o') (v:Value):Ab.blk o' v=Ab.blk o v:=by
 cases h with
 |box=>cases v with
  |pointer a=>cases a<;>rfl
  |slice a _ _=>cases a<;>rfl
  |map a=>cases a<;>rfl
  |_=>rfl
 |arr=>cases v with
  |pointer a=>cases a<;>rfl
  |slice a _ _=>cases a<;>rfl
  |map a=>cases a<;>rfl
  |_=>rfl
 |none=>rfl
theorem owns_ge {base:Nat}{κ:Nat→Nat→Option Value}{γ:Nat→Nat}{sv:Nat→Value}{w:World}{s:Nat}{E z m:Nat}{f:Nat→List D} (h:Owns base κ γ sv w s (.arr E z m f)):∀ b,blk (.arr E z m f) (sv s)=some b→base≤b:=fun b hb=>by
 obtain ⟨xs,e1,_⟩:=h
 rcases e1.2 with ⟨hv,_⟩|⟨g,off,cap,cur,hv,hbase,_⟩
 ·rw[hv]at hb;cases hb
 ·rw[hv]at hb;simp only[blk,Option.some.injEq]at hb;subst hb;exact hbase
inductive OwK:Own→Own→Prop
 |box (l l':List D):OwK (.box l) (.box l')
 |arr (E z m:Nat) (f:Nat→List D) (E' z' m':Nat) (f':Nat→List D):OwK (.arr E z m f) (.arr E' z' m' f')
 |gone (o:Own):OwK o .none
theorem OwK.blk {o o':Own} (h:OwK o o') {v:Value}{b:Nat} (hb:Ab.blk o' v=some b):Ab.blk o v=some b:=by
 cases h with
 |gone=>cases hb
 |_ =>
  rw[← hb]
  cases v with
  |pointer a=>cases a<;>rfl
  |slice a _ _=>cases a<;>rfl
  |map a=>cases a<;>rfl
  |_=>rfl
structure FrameM (n:Nat) (bs:Nat→Option Nat) (w w':World):Prop where
 os:w'.os=w.os
 tape:w'.tape=w.tape
 output:w'.output=w.output
 size:w.heap.size≤w'.heap.size
 block:∀ k,k<w.heap.size→(∀ i,i<n→bs i≠some k)→w'.heap[k]?=w.heap[k]?
theorem FrameM.refl (n:Nat) (bs:Nat→Option Nat) (w:World):FrameM n bs w w:=⟨rfl,rfl,rfl,Nat.le_refl _,fun _ _ _=>rfl⟩
def one:Nat→Nat:=fun _=>1
structure ContractM (Z:Seat) (f:FuncId) (n:Nat) (q:Nat→Nat) (os os':Nat→Own) (A:List D) (R:D):Prop where
 refR:Rn n q one q one R R
 kind:∀ i,i<n→OwK (os i) (os' i)
 body:HasBody Z.P f
 calls:∀ (w:World) (κ:Nat→Nat→Option Value) (sv:Nat→Value) (args:List Value),(∀ i j b,i<n→j<n→blk (os i) (sv (q i))=some b→blk (os j) (sv (q j))=some b→i=j)→Fits κ w→(∀ i b,i<n→blk (os i) (sv (q i))=some b→∀ o,κ b o=none)→GlobOk Z κ w →
  (∀ i,i<n→Owns 0 κ (gM q n) sv w (q i) (os i))→RepL κ (gM q n) sv A args →
  Calls Z.P f args.toArray w fun e w'=>∃ v,e=.returned v∧Rep (growK κ w w') (gM q n) sv R v∧(∀ i,i<n→Owns 0 (growK κ w w') (gM q n) sv w' (q i) (os' i))∧FrameM n (fun i=>blk (os i) (sv (q i))) w w'
def multiF (w0:World) (n:Nat) (bs:Nat→Option Nat) (M:Nat→Prop) (w:World):Prop:=FrameM n bs w0 w∧∀ k,M k→w0.heap.size≤k∨∃ i,i<n∧bs i=some k
theorem multi_cl (w0:World) (n:Nat) (bs:Nat→Option Nat):∀ M w w',multiF w0 n bs M w→Step M w w'→multiF w0 n bs (fun k=>M k∨w.heap.size≤k) w':=fun M w w' h hs =>
 ⟨⟨hs.os.trans h.1.os,hs.tape.trans h.1.tape,hs.output.trans h.1.output,Nat.le_trans h.1.size hs.size,fun k hk he =>
  (hs.block k (Nat.lt_of_lt_of_le hk h.1.size) (fun hm=>by
   rcases h.2 k hm with h8|⟨i,h8,h9⟩
   ·omega
   ·exact he i h8 h9)).trans (h.1.block k hk he)⟩,
  fun k hk=>by
   rcases hk with hk|hk
   ·exact h.2 k hk
   ·exact .inl (Nat.le_trans h.1.size hk)⟩
theorem multi_turn {w0:World}{n:Nat}{bs:Nat→Option Nat}:∀ M w w' D,multiF w0 n bs M w→w.grownBy w' (some D)→w0.heap.size≤D→multiF w0 n bs M w':=fun M w w' D h1 hg hD =>
 ⟨⟨hg.os.trans h1.1.os,hg.tape.trans h1.1.tape,hg.output.trans h1.1.output,Nat.le_trans h1.1.size hg.size,fun k hk he =>
  (hg.block k (Nat.lt_of_lt_of_le hk h1.1.size) (fun e=>by simp only[Option.some.injEq]at e;omega)).trans (h1.1.block k hk he)⟩,h1.2⟩
def Ctx.multi (Z:Seat) (nt:Nat) (w0:World) (κ0:Nat→Nat→Option Value) (n:Nat) (q:Nat→Nat) (bs:Nat→Option Nat) (sv:Nat→Value):Ctx:=⟨Z,nt,w0,κ0,none,fun b=>∃ i,i<n∧bs i=some b,fun _ _=>none,gM q n,sv,fun _=>False,false,none,multiF w0 n bs,multi_cl w0 n bs,fun M w h g _ _ hk _ he hr=>hr.eq (h.1.block g hk (fun i hi e=>he ⟨i,hi,e⟩)),fun s=>Nat.ble XB s⟩
def St.initM (n:Nat) (q:Nat→Nat) (os:Nat→Own) (A:List D):St:=⟨fun i=>match nth A i with|some d=>d|none=>.undef,gM q n,ownF q os n⟩
def OwCv (o o':Own):Prop:=(∀ v,blk o v=blk o' v)∧∀ base κ γ sv w s,Owns base κ γ sv w s o→Owns base κ γ sv w s o'
section
variable {X:Ctx}{Q:Exit→St→Prop}{S:St}{ops:Array Oper}{o:Oper}{rest:List Oper}
end
end Go.Ab
namespace Go.Ab
open Go Go.RowKit
set_option linter.all false
section
variable {X:Ctx}{Q:Exit→St→Prop}{S S' S0:St}{ops:Array Oper}{o:Oper}
end
end Go.Ab
namespace Go.Ab
open Go Go.RowKit
set_option linter.all false
def mFind:List (Int×Int)→Int→Option Int
 |[],_=>none
 |p::l,n=>bif decide (p.1=n) then some p.2 else mFind l n
def mSet:List (Int×Int)→Int→Int→List (Int×Int)
 |[],n,v=>[(n,v)]
 |p::l,n,v=>bif decide (p.1=n) then (n,v)::l else p::mSet l n v
def mGet (l:List (Int×Int)) (n:Int):Int:=(mFind l n).getD 0
def mHas (l:List (Int×Int)) (n:Int):Bool:=(mFind l n).isSome
def mIdx:List (Int×Int)→Int→Nat
 |[],_=>0
 |p::l,n=>bif decide (p.1=n) then 0 else mIdx l n+1
abbrev kvP (p:Int×Int):Value×Value:=(Value.int .i64 p.1,Value.int .i64 p.2)
theorem findNow_is:∀ {es:List MapEntry}{l:List (Int×Int)},es.map (fun e=>(e.key,e.val))=l.map kvP→∀ (n:Int) (i:Nat),
  Instr.findNow (.int .i64) (.int .i64 n) es i=some (match mFind l n with|some v=>some (i+mIdx l n,.int .i64 v)|none=>none)
 |[],[],_,n,i=>rfl
 |[],_::_,h,n,i=>by cases h
 |_::_,[],h,n,i=>by cases h
 |e::es,p::l,h,n,i=>by
  simp only[List.map_cons,List.cons.injEq,Prod.mk.injEq]at h
  obtain ⟨⟨h1,h2⟩,h3⟩:=h
  have ih:=findNow_is h3 n (i+1)
  simp only[Instr.findNow,h1,h2,Instr.sameNow,mFind,mIdx]
  by_cases hp:p.1=n
  ·simp[hp]
  ·have:(n == p.1)=false:=by simpa using fun e=>hp e.symm
   simp only[this,hp,decide_false,cond_false,if_true]
   rw[ih]
   cases mFind l n with
   |none=>rfl
   |some v=>simp;omega
theorem mIdx_at:∀ {es:List MapEntry}{l:List (Int×Int)},es.map (fun e=>(e.key,e.val))=l.map kvP→∀ {n v:Int},mFind l n=some v→∃ e,es[mIdx l n]?=some e∧e.key=.int .i64 n
 |[],[],_,n,v,h=>by cases h
 |[],_::_,h,n,v,_=>by cases h
 |_::_,[],h,n,v,_=>by cases h
 |e::es,p::l,h,n,v,hf=>by
  simp only[List.map_cons,List.cons.injEq,Prod.mk.injEq]at h
  obtain ⟨⟨h1,h2⟩,h3⟩:=h
  simp only[mFind,mIdx]at hf ⊢
  by_cases hp:p.1=n
  ·simp only[hp,decide_true,cond_true]
   exact⟨e,by simp,by rw[h1,hp]⟩
  ·simp only[hp,decide_false,cond_false]at hf ⊢
   obtain ⟨e',q1,q2⟩:=mIdx_at h3 hf
   exact⟨e',by simpa using q1,q2⟩
theorem mSet_mod:∀ {es:List MapEntry}{l:List (Int×Int)},es.map (fun e=>(e.key,e.val))=l.map kvP→∀ {n v:Int} (x:Int),mFind l n=some v →
  (es.modify (mIdx l n) fun e=>{ e with key:=.int .i64 n,val:=.int .i64 x }).map (fun e=>(e.key,e.val))=(mSet l n x).map kvP
 |[],[],_,n,v,x,h=>by cases h
 |[],_::_,h,n,v,x,_=>by cases h
 |_::_,[],h,n,v,x,_=>by cases h
 |e::es,p::l,h,n,v,x,hf=>by
  have h':=h
  simp only[List.map_cons,List.cons.injEq,Prod.mk.injEq]at h
  obtain ⟨⟨h1,h2⟩,h3⟩:=h
  simp only[mFind,mIdx,mSet]at hf ⊢
  by_cases hp:p.1=n
  ·simp only[hp,decide_true,cond_true,List.modify_zero_cons,List.map_cons]
   rw[h3]
  ·simp only[hp,decide_false,cond_false,List.modify_succ_cons,List.map_cons]at hf ⊢
   rw[mSet_mod h3 x hf,h1,h2]
theorem mSet_push:∀ {es:List MapEntry}{l:List (Int×Int)},es.map (fun e=>(e.key,e.val))=l.map kvP→∀ {n x:Int} (b:Nat),mFind l n=none →
  (es++[({ key:=.int .i64 n,val:=.int .i64 x,born:=b }:MapEntry)]).map (fun e:MapEntry=>(e.key,e.val))=(mSet l n x).map kvP
 |[],[],_,n,x,b,_=>rfl
 |[],_::_,h,n,x,b,_=>by cases h
 |_::_,[],h,n,x,b,_=>by cases h
 |e::es,p::l,h,n,x,b,hf=>by
  simp only[List.map_cons,List.cons.injEq,Prod.mk.injEq]at h
  obtain ⟨⟨h1,h2⟩,h3⟩:=h
  simp only[mFind,mSet]at hf ⊢
  by_cases hp:p.1=n
  ·simp only[hp,decide_true,cond_true]at hf;cases hf
  ·simp only[hp,decide_false,cond_false,List.cons_append,List.map_cons]at hf ⊢
   rw[mSet_push h3 b hf,h1,h2]
def sFind:List (ByteArray×Value)→ByteArray→Option (Nat×Value)
 |[],_=>none
 |p::l,s=>bif s == p.1 then some (0,p.2) else (sFind l s).map fun q=>(q.1+1,q.2)
abbrev kS (p:ByteArray×Value):Value×Value:=(Value.string p.1,p.2)
theorem findNow_S:∀ {es:List MapEntry}{l:List (ByteArray×Value)},es.map (fun e=>(e.key,e.val))=l.map kS→∀ (s:ByteArray) (i:Nat),
  Instr.findNow .string (.string s) es i=some ((sFind l s).map fun q=>(i+q.1,q.2))
 |[],[],_,s,i=>rfl
 |[],_::_,h,s,i=>by cases h
 |_::_,[],h,s,i=>by cases h
 |e::es,p::l,h,s,i=>by
  simp only[List.map_cons,List.cons.injEq,Prod.mk.injEq]at h
  obtain ⟨⟨h1,h2⟩,h3⟩:=h
  have ih:=findNow_S h3 s (i+1)
  simp only[Instr.findNow,h1,h2,Instr.sameNow,sFind]
  cases hp:(s == p.1) with
  |true=>rfl
  |false =>
   simp only[cond_false]
   rw[ih]
   cases sFind l s with
   |none=>rfl
   |some q=>simp;omega
structure MapTy (P:Program) (t:TypeId):Prop where
 ty:∃ k e i,P.underlying t=some (.map k e)∧P.underlying k=some (.int .i64)∧P.info? e=some i∧i.zero=some (.int .i64 0)
structure MapTyS (P:Program) (t:TypeId):Prop where
 ty:∃ k e i z,P.underlying t=some (.map k e)∧P.underlying k=some .string∧P.info? e=some i∧i.zero=some z
section
variable {P:Program}{w:World}{t:TypeId}{b:Nat}{es:Array MapEntry}{c:Nat}{l:List (Int×Int)}
theorem run_lookupI (ht:MapTy P t) (hb:w.heap[b]?=some (.map es c)) (hm:mapIs es (l.map kvP)) (n:Int):(Instr.lookup t (.map (some b)) (.int .i64 n) true).run P w=.ok (.tuple #[.int .i64 (mGet l n),.bool (mHas l n)]) w:=by
 obtain ⟨k,e,i,h1,h2,h3,h4⟩:=ht
 have hk:MapKept.IsKey (.int .i64) (.int .i64 n):=rfl
 have hf:=findNow_is (es:=es.toList) (l:=l) hm n 0
 cases hq:mFind l n with
 |none =>
  rw[hq]at hf
  simp[Instr.lookup,run_underlying h1,MapKept.run_getObj_map hb,MapKept.run_checkKey h2 hk,MapKept.run_findKey h2 hf,Result.andThen,zeroValue,typeInfo,h3,h4,mGet,mHas,hq]
 |some v =>
  rw[hq]at hf
  simp[Instr.lookup,run_underlying h1,MapKept.run_getObj_map hb,MapKept.run_checkKey h2 hk,MapKept.run_findKey h2 hf,Result.andThen,mGet,mHas,hq]
theorem run_updateI (ht:MapTy P t) (hb:w.heap[b]?=some (.map es c)) (hm:mapIs es (l.map kvP)) (n x:Int):∃ es' c',(Instr.mapUpdate t (.map (some b)) (.int .i64 n) (.int .i64 x)).run P w=.ok () { w with heap:=w.heap.setIfInBounds b (.map es' c') }∧mapIs es' ((mSet l n x).map kvP):=by
 obtain ⟨k,e,i,h1,h2,h3,h4⟩:=ht
 have hk:MapKept.IsKey (.int .i64) (.int .i64 n):=rfl
 have hf:=findNow_is (es:=es.toList) (l:=l) hm n 0
 cases hq:mFind l n with
 |none =>
  rw[hq]at hf
  refine ⟨es.push { key:=.int .i64 n,val:=.int .i64 x,born:=c },c+1,?_,?_⟩
  ·simp[Instr.mapUpdate,run_underlying h1,MapKept.run_getObj_map hb,MapKept.run_checkKey h2 hk,MapKept.run_findKey h2 hf,Result.andThen,MapKept.run_setObj_map _ hb]
  ·have:=mSet_push (es:=es.toList) (l:=l) hm (x:=x) c hq
   unfold mapIs
   rw[Array.toList_push];exact this
 |some v =>
  rw[hq]at hf
  obtain ⟨e0,q1,q2⟩:=mIdx_at (es:=es.toList) (l:=l) hm hq
  have hj:es[mIdx l n]?=some e0:=by simpa using q1
  refine ⟨es.modify (mIdx l n) fun e=>{ e with key:=.int .i64 n,val:=.int .i64 x },c,?_,?_⟩
  ·simp[Instr.mapUpdate,run_underlying h1,MapKept.run_getObj_map hb,MapKept.run_checkKey h2 hk,MapKept.run_findKey h2 hf,hj,q2,MapKept.run_keyThatStays hk,Result.andThen,MapKept.run_setObj_map _ hb]
  ·have:=mSet_mod (es:=es.toList) (l:=l) hm x hq
   unfold mapIs
   rw[Array.toList_modify];exact this
end
section
variable {P:Program}{w:World}{t:TypeId}{b:Nat}{es:Array MapEntry}{c:Nat}{l:List (ByteArray×Value)}
theorem run_putS (ht:MapTyS P t) (hb:w.heap[b]?=some (.map es c)) (hm:mapIs es (l.map kS)) (s:ByteArray) (x:Value) (hn:sFind l s=none):∃ es' c',(Instr.mapUpdate t (.map (some b)) (.string s) x).run P w=.ok () { w with heap:=w.heap.setIfInBounds b (.map es' c') }∧mapIs es' ((l++[(s,x)]).map kS):=by
 obtain ⟨k,e,i,z,h1,h2,h3,h4⟩:=ht
 have hk:MapKept.IsKey .string (.string s):=trivial
 have hf:=findNow_S (es:=es.toList) (l:=l) hm s 0
 rw[hn]at hf
 refine ⟨es.push { key:=.string s,val:=x,born:=c },c+1,?_,?_⟩
 ·simp[Instr.mapUpdate,run_underlying h1,MapKept.run_getObj_map hb,MapKept.run_checkKey h2 hk,MapKept.run_findKey h2 hf,Result.andThen,MapKept.run_setObj_map _ hb]
 ·have hm':es.toList.map (fun e=>(e.key,e.val))=l.map kS:=hm
  unfold mapIs
  rw[Array.toList_push,List.map_append,List.map_append,hm'];rfl
end
section
variable {X:Ctx}{S:St}{o:Oper}
theorem map_own {κ:Nat→Nat→Option Value}{sv:Nat→Value}{a:Act}{w:World} (hs:Sim X κ sv S a w) {x:Operand}{s g:Nat}{l:List (Value×Value)} (hx:S.ev X x=.os s g) (hγ:S.γ s=g) (hσ:S.σ s=.mp l) :
  ∃ b es c,a.eval x=.map (some b)∧sv s=.map (some b)∧w.heap[b]?=some (.map es c)∧mapIs es l:=by
 have h1:=hs.ev x
 rw[hx]at h1
 have h2:=hs.wld.own s
 rw[hσ]at h2
 obtain ⟨b,es,c,e1,e2,e3⟩:=h2
 generalize a.eval x=v at h1
 cases h1 with
 |os _ _ _ _ hh _=>exact⟨b,es,c,by rw[hh hγ.symm,e1],e1,e2,e3⟩
def mapZ (P:Program) (t:TypeId):Option Value:=match P.underlying t with
 |some (.map k e)=>(match P.underlying k,P.info? e with
  |some .string,some i=>i.zero
  |_,_=>none)
 |_=>none
theorem mapZ_ok {P:Program}{t:TypeId}{z:Value} (h:mapZ P t=some z):∃ k e i,P.underlying t=some (.map k e)∧P.underlying k=some .string∧P.info? e=some i∧i.zero=some z:=by
 unfold mapZ at h
 split at h
 ·rename_i k e hu
  split at h
  ·rename_i i hk he;exact⟨k,e,i,hu,hk,he,h⟩
  ·cases h
 ·cases h
theorem q_lookV {T:TypeId}{x y:Operand}{m g:Nat}{l:List (ByteArray×Value)}{s:ByteArray}{z v:Value}{d:D}{ok:Bool} (ht:mapZ X.Z.P T=some z) (ho:o.op=.lookup T x y ok) (hx:S.ev X x=.os m g) (hγ:S.γ m=g) (hσ:S.σ m=.mp (l.map kS)) (hy:S.ev X y=.str s)
  (hv:((sFind l s).map (·.2)).getD z=v) (hd:∀ κ γ sv,Rep κ γ sv d v):QOp X o S (bif ok then .tup [d,.bool (sFind l s).isSome] else d):=fun κ sv a w hs=>by
 obtain ⟨b,es,c,h1,h2,h3,h4⟩:=map_own hs hx hγ hσ
 have hyv:=hs.ev y
 rw[hy]at hyv
 generalize hye:a.eval y=yv at hyv
 cases hyv
 obtain ⟨k,e,i,q1,q2,q3,q4⟩:=mapZ_ok ht
 have hk:MapKept.IsKey .string (.string s):=trivial
 have hq:=findNow_S (es:=es.toList) (l:=l) h4 s 0
 have run:∀ w':World,w'.heap[b]?=some (.map es c)→(Instr.lookup T (.map (some b)) (.string s) ok).run X.Z.P w'=.ok (bif ok then .tuple #[v,.bool (sFind l s).isSome] else v) w':=fun w' hb'=>by
  cases hf:sFind l s with
  |none =>
   rw[hf]at hq hv
   simp only[Option.map_none,Option.getD_none]at hv
   subst hv
   cases ok<;>simp[Instr.lookup,run_underlying q1,MapKept.run_getObj_map hb',MapKept.run_checkKey q2 hk,MapKept.run_findKey q2 hq,Result.andThen,zeroValue,typeInfo,q3,q4]
  |some p =>
   rw[hf]at hq hv
   simp only[Option.map_some,Option.getD_some]at hv
   subst hv
   cases ok<;>simp[Instr.lookup,run_underlying q1,MapKept.run_getObj_map hb',MapKept.run_checkKey q2 hk,MapKept.run_findKey q2 hq,Result.andThen]
 refine ⟨bif ok then .tuple #[v,.bool (sFind l s).isSome] else v,?_,fun w' hb=>?_⟩
 ·cases ok
  ·exact hd _ _ _
  ·exact .tup _ [v,Value.bool _] (.cons _ _ _ _ (hd _ _ _) (.cons _ _ _ _ (.bool _) .nil))
 ·have hb':w'.heap[b]?=some (.map es c):=by rw[hb.block b (Array.getElem?_eq_some_iff.1 h3).1];exact h3
  have:=run w' hb'
  simp[execOp,ho,h1,hye,this]
theorem n_putV {T:TypeId}{x y z:Operand}{m g:Nat}{l:List (ByteArray×Value)}{s:ByteArray}{z0 v:Value}{d:D} (ht:mapZ X.Z.P T=some z0) (ho:o.op=.mapUpdate T x y z∨o.op=.insert T x y z) (hd:o.dst=none) (hx:S.ev X x=.os m g) (hγ:S.γ m=g) (hσ:S.σ m=.mp (l.map kS)) (hy:S.ev X y=.str s) (hz:S.ev X z=d)
  (hv:∀ κ γ sv u,Rep κ γ sv d u→u=v) (hn:sFind l s=none):NOp X o S ⟨S.ρ,S.γ,upd S.σ m (.mp ((l++[(s,v)]).map kS))⟩:=fun κ sv a w hs=>by
 obtain ⟨b,es,c,h1,h2,h3,h4⟩:=map_own hs hx hγ hσ
 have hyv:=hs.ev y
 rw[hy]at hyv
 generalize hye:a.eval y=yv at hyv
 cases hyv
 have hzv:=hs.ev z
 rw[hz]at hzv
 have hze:=hv _ _ _ _ hzv
 obtain ⟨k,e,i,q1,q2,q3,q4⟩:=mapZ_ok ht
 obtain ⟨es',c',r1,r2⟩:=run_putS ⟨k,e,i,z0,q1,q2,q3,q4⟩ h3 h4 s v hn
 have hgr:w.grownBy { w with heap:=w.heap.setIfInBounds b (.map es' c') } (some b):=by
  refine ⟨rfl,rfl,rfl,by simp,fun k hk hne=>?_⟩
  have:k≠b:=fun e=>hne (by rw[e])
  exact(MapKept.heap_set h3).2 k this
 have hblk:blk (S.σ m) (sv m)=some b:=by rw[hσ,h2];rfl
 rw[hd]
 refine ⟨Go.undef,_,κ,sv,.inr ⟨?_,rfl⟩,⟨hs.size,dfr_own hs m (by rw[hblk];exact hgr),hs.slot,?_⟩⟩
 ·rcases ho with ho|ho<;>simp[execOp,ho,h1,hye,hze,r1,Result.andThen]
 ·refine hs.wld.rewrite m (.mp _) (by rw[hblk];exact hgr) (by rw[hσ,h2];rfl) ⟨b,es',c',h2,(MapKept.heap_set h3).1,r2⟩ _
theorem q_lookup {T:TypeId}{x y:Operand}{s g:Nat}{l:List (Int×Int)}{n:Int} (ht:MapTy X.Z.P T) (ho:o.op=.lookup T x y true) (hx:S.ev X x=.os s g) (hγ:S.γ s=g) (hσ:S.σ s=.mp (l.map kvP)) (hy:S.ev X y=.int .i64 n) :
  QOp X o S (.tup [.int .i64 (mGet l n),.bool (mHas l n)]):=fun κ sv a w hs=>by
 obtain ⟨b,es,c,h1,h2,h3,h4⟩:=map_own hs hx hγ hσ
 have hyv:=hs.ev y
 rw[hy]at hyv
 generalize hye:a.eval y=v at hyv
 cases hyv
 refine ⟨_,.tup _ _ (.cons _ _ _ _ (.int _ _) (.cons _ _ _ _ (.bool _) .nil)),fun w' hb=>?_⟩
 have hb':w'.heap[b]?=some (.map es c):=by rw[hb.block b (Array.getElem?_eq_some_iff.1 h3).1];exact h3
 simp[execOp,ho,h1,hye,run_lookupI ht hb' h4]
theorem n_mapUpdate {T:TypeId}{x y z:Operand}{s g:Nat}{l:List (Int×Int)}{n v:Int} (ht:MapTy X.Z.P T) (ho:o.op=.mapUpdate T x y z∨o.op=.insert T x y z) (hd:o.dst=none) (hx:S.ev X x=.os s g) (hγ:S.γ s=g) (hσ:S.σ s=.mp (l.map kvP)) (hy:S.ev X y=.int .i64 n) (hz:S.ev X z=.int .i64 v) :
  NOp X o S ⟨S.ρ,S.γ,upd S.σ s (.mp ((mSet l n v).map kvP))⟩:=fun κ sv a w hs=>by
 obtain ⟨b,es,c,h1,h2,h3,h4⟩:=map_own hs hx hγ hσ
 have hyv:=hs.ev y
 rw[hy]at hyv
 generalize hye:a.eval y=yv at hyv
 cases hyv
 have hzv:=hs.ev z
 rw[hz]at hzv
 generalize hze:a.eval z=zv at hzv
 cases hzv
 obtain ⟨es',c',r1,r2⟩:=run_updateI ht h3 h4 n v
 have hgr:w.grownBy { w with heap:=w.heap.setIfInBounds b (.map es' c') } (some b):=by
  refine ⟨rfl,rfl,rfl,by simp,fun k hk hne=>?_⟩
  have:k≠b:=fun e=>hne (by rw[e])
  exact(MapKept.heap_set h3).2 k this
 have hblk:blk (S.σ s) (sv s)=some b:=by rw[hσ,h2];rfl
 rw[hd]
 refine ⟨Go.undef,_,κ,sv,.inr ⟨?_,rfl⟩,⟨hs.size,dfr_own hs s (by rw[hblk];exact hgr),hs.slot,?_⟩⟩
 ·rcases ho with ho|ho<;>simp[execOp,ho,h1,hye,hze,r1,Result.andThen]
 ·refine hs.wld.rewrite s (.mp _) (by rw[hblk];exact hgr) (by rw[hσ,h2];rfl) ⟨b,es',c',h2,(MapKept.heap_set h3).1,r2⟩ _
theorem run_eqnil {P:Program}{w:World}{T e:TypeId} (hu:P.underlying T=some (.slice e)) (a:Option Addr) (n c:Nat):(binOp .eql T (.slice a n c) (.slice none 0 0)).run P w=.ok (.bool a.isNone) w:=by
 have h:(Op.equal T (.slice a n c) (.slice none 0 0)).run P w=.ok a.isNone w:=by
  unfold Op.equal
  have:Op.maxDepth=9999+1:=rfl
  rw[this]
  unfold Op.equalIn
  simp only[Sem.run_bind,run_underlying hu,Result.andThen_ok]
  cases a<;>rfl
 have h2:binOp .eql T (.slice a n c) (.slice none 0 0)=(do pure (.bool (← Op.equal T (.slice a n c) (.slice none 0 0)))):=rfl
 rw[h2]
 simp[h]
theorem WL_eqnil {Q:Exit→St→Prop}{ops:Array Oper}{rest:List Oper}{T T2:TypeId}{x y:Operand}{t:Nat}{z n:Nat}{f:Nat→List D}{r:TRow} (hg:o.guard=none) (ho:o.op=.binOp .eql T x y T2) (hd:o.dst=some t) (hr:nth X.Z.tab T=some r) (hk:Nat.beq r.k 3=true) (hx:S.ev X x=.sl z n f) (hy:S.ev X y=.nil)
  (ht:n=0→WL X ops rest Q (S.set t (.bool true))) (hf:WL X ops rest Q (S.set t (.bool false))):WL X ops (o::rest) Q S:=fun κ sv a w hs=>by
 have hu:=slice_row (X.Z.tabOk _ _ hr (by intro e;rw[e]at hk;cases hk)) hk
 have h1:=hs.ev x
 rw[hx]at h1
 have h2:=hs.ev y
 rw[hy]at h2
 generalize hxe:a.eval x=xv at h1
 generalize hye:a.eval y=yv at h2
 cases h2
 cases h1 with
 |sl _ _ _ b off cap u q1 q2 q3 q4 q5 =>
  refine wpListIn_plain hg fun K hK=>op_val (v:=.bool false) (w':=w) ?_ ?_
  ·simp[execOp,ho,hxe,hye,eqGuard,run_eqnil hu]
  ·rw[hd];exact hK _ _ (hf κ sv _ _ (hs.put (some t) (.bool _)))
 |sl0 =>
  refine wpListIn_plain hg fun K hK=>op_val (v:=.bool true) (w':=w) ?_ ?_
  ·simp[execOp,ho,hxe,hye,eqGuard,run_eqnil hu]
  ·rw[hd];exact hK _ _ (ht rfl κ sv _ _ (hs.put (some t) (.bool _)))
 |slE _ _ ad cap =>
  refine wpListIn_plain hg fun K hK=>op_val (v:=.bool false) (w':=w) ?_ ?_
  ·simp[execOp,ho,hxe,hye,eqGuard,run_eqnil hu]
  ·rw[hd];exact hK _ _ (hf κ sv _ _ (hs.put (some t) (.bool _)))
theorem n_makeMap {T:TypeId}{t:Nat} (ho:o.op=.makeMap T none) (hd:o.dst=some t):NOp X o S ⟨upd S.ρ t (.os t (S.γ t+1)),upd S.γ t (S.γ t+1),upd S.σ t (.mp [])⟩:=fun κ sv a w hs=>by
 have hle:=le_renew κ S.γ sv t (.map (some w.heap.size))
 rw[hd]
 refine ⟨.map (some w.heap.size),w.alloc (.map #[] 0),κ,upd sv t (.map (some w.heap.size)),.inl ?_,?_⟩
 ·simp[execOp,ho,run_makeMap]
 ·refine ⟨by rw[put_size];exact hs.size,(dfr_own hs t (World.grownBy_alloc w _ _)).put _ _,?_,?_⟩
  ·exact hs.slotsR hle (some t) (.os _ _ _ (by rw[upd_same];exact Nat.le_refl _) (fun _=>(upd_same _ _ _).symm) rfl)
  ·refine hs.wld.renew t (.mp []) _ (World.grownBy_alloc w _ _) (fun b hb=>?_) ⟨w.heap.size,#[],0,upd_same _ _ _,(MapKept.heap_alloc w _).1,rfl⟩ _
   simp only[blk,Option.some.injEq]at hb
   exact .inl (by omega)
end
section
variable {F:Fence}{n:Nat}{P:Program}{Q:Exit→Act→World→Prop}{a:Act}{w:World}{b:Go.Frame}{k:List Item}{cs:List Go.Frame}
theorem stepR_scope {c:Code}:step P (lone (b.atR a (.code (.scope c)::k)) cs w)=.next (lone (b.atR a (.code c::.inScope c::k)) cs w) :=
 step_lone_go (by simp[stepG,stepG.exec,Frame.atR])
theorem stepR_inScope {c:Code}:step P (lone (b.atR a (.inScope c::k)) cs w)=.next (lone (b.atR a k) cs w) :=
 step_lone_go (by simp[stepG,stepG.exec,Frame.atR])
theorem wpIn_scope {c:Code} (h:c.wpIn F n P (Exit.noGoto Q) a w):(Code.scope c).wpIn F n P Q a w:=by
 intro b k cs hro hb hr
 have h0:(lone (b.atR a (.code (.scope c)::k)) cs w).fenced P F:=fenced_calm hb hr rfl
 obtain ⟨e,a₁,w₁,hq,harr⟩:=h b (.inScope c::k) cs hro hb hr
 cases e with
 |normal=>exact⟨.normal,a₁,w₁,hq,.head h0 stepR_scope (StepsIn.trans harr (.one (fenced_calm hb hr rfl) stepR_inScope))⟩
 |exit id =>
  have hx:exitTo id (.inScope c::k)=exitTo id k:=by simp[exitTo]
  exact⟨.exit id,a₁,w₁,hq,fun k' hk=>.head h0 stepR_scope (harr.1 k' (by rw[hx];exact hk)),
   fun hr' hk=>let ⟨k₁,h1,h2⟩:=harr.2 hr' (by rw[hx];exact hk);⟨k₁,h1,.head h0 stepR_scope h2⟩⟩
 |goto l=>exact hq.elim
 |ret=>exact⟨_,a₁,w₁,hq,.of_steps (.one h0 stepR_scope) harr⟩
 |panic ch=>exact⟨_,a₁,w₁,hq,.of_steps (.one h0 stepR_scope) harr⟩
 |outgrown=>exact⟨_,a₁,w₁,hq,.of_steps (.one h0 stepR_scope) harr⟩
end
theorem W_scope {X:Ctx}{Q:Exit→St→Prop}{S:St}{c:Code} (h:W X c (fun e T=>match e with|.goto _=>False|e=>Q e T) S):W X (.scope c) Q S:=fun κ sv a w hs=>by
 refine wpIn_scope (wpIn_mono (h κ sv a w hs) ?_)
 rintro e a' w' ⟨κ',sv',S',h1,h2⟩
 cases e<;>first|exact h2.elim|exact⟨κ',sv',S',h1,h2⟩
theorem W_label {X:Ctx}{Q:Exit→St→Prop}{S:St}{l:Nat} (h:Q .normal S):W X (.label l) Q S:=fun κ sv _ _ hs=>wpIn_label ⟨κ,sv,S,hs,h⟩
end Go.Ab
namespace Go.Ab
open Go Go.RowKit
set_option linter.all false
section
variable {P:Program}{w:World}
theorem run_append_room_off_str (t u ty e:TypeId) (i:TypeInfo) (ht:P.underlying t=some (.slice e)) (hu:P.underlying u=some .string) (hi:P.info? e=some i) (hs1:i.size=1)
  (g off sLen sCap:Nat) (cur:Array Value) (hg:w.heap[g]?=some (.cells cur e (0,0))) (s:ByteArray) (hroom:sLen+s.size≤sCap) (hfit:off+sLen+s.size≤cur.size) :
  (Builtin.append_ #[t,u] ty #[.slice (some ⟨g,off,none⟩) sLen sCap,.string s]).run P w =
   .ok (.slice (some ⟨g,off,none⟩) (sLen+s.size) sCap) (w.setRow g (cur.toList.take (off+sLen)++Lib.strCells s++cur.toList.drop (off+sLen+s.size)).toArray):=by
 have hf:=Lib.run_firstCells_string (P:=P) w 1 s
 have hst:=run_storeCells_at P g (off+sLen) e (Lib.strCells s) 0 cur w hg (by simpa[Lib.strCells_length] using hfit) (Lib.strCells_oneCell s)
 simp only[Nat.add_zero,Lib.strCells_length]at hst
 have hadd:∀ k,(⟨g,off,none⟩:Addr).add k=⟨g,off+k,none⟩:=fun k=>by unfold Addr.add;split<;>simp_all
 simp[Builtin.append_,run_underlying ht,run_underlying hu,sizeOf,typeInfo,hi,hs1,Builtin.lenOf,hroom,hf,hadd,hst]
theorem run_append_where_str (base:Nat) (t u ty e:TypeId) (i:TypeInfo) (z:Value) (ht:P.underlying t=some (.slice e)) (hu:P.underlying u=some .string) (hi:P.info? e=some i) (hz:i.zero=some z) (hsize:i.size=1) (hby:i.bytes=1) (hz1:z.cells.size=1)
  (v:Value) (n:Nat) (xs:List Value) (hown:ownsAt w base e 1 v n xs) (s:ByteArray) (h63:n+s.size≤maxLen) (hbytes:n+s.size≤140737488355328) (hbase:base≤w.heap.size) :
  ∃ v' w',(Builtin.append_ #[t,u] ty #[v,.string s]).run P w=.ok v' w'∧ownsAt w' base e 1 v' (n+s.size) (xs++Lib.strCells s)∧w.grownBy w' v.ownBlock ∧
   (∀ b,v'.ownBlock=some b→w.heap.size≤b∨v.ownBlock=some b):=by
 have hsmall:n+s.size≤9223372036854775807:=by simp only[maxLen]at h63;omega
 have hxl:xs.length=n:=by simpa using hown.1
 have hlen:(xs++Lib.strCells s).length=(n+s.size) * 1:=by rw[List.length_append,hxl,Lib.strCells_length,Nat.mul_one]
 have grown:∀ (old:Nat),old<n+s.size →
   (w.drew.alloc (.cells (xs.toArray++(Lib.strCells s).toArray++Builtin.zeroCells z.cells (grownCap w (n+s.size) old e - (n+s.size))) e)).ownsRow w.heap.size e 1
    (.slice (some ⟨w.heap.size,0,none⟩) (n+s.size) (grownCap w (n+s.size) old e)) (n+s.size) (xs++Lib.strCells s) ∧
   w.grownBy (w.drew.alloc (.cells (xs.toArray++(Lib.strCells s).toArray++Builtin.zeroCells z.cells (grownCap w (n+s.size) old e - (n+s.size))) e)) v.ownBlock:=by
  intro old ho
  refine ⟨⟨hlen,.inr ⟨w.heap.size,_,_,rfl,Nat.le_refl _,heap_alloc_new w.drew _,grownCap_ge w (n+s.size) old e,grownCap_le_maxLen w (n+s.size) old e h63,?_,?_⟩⟩,⟨rfl,rfl,rfl,by simp,fun k hk _=>(by first|exact heap_alloc_old w.drew _ k hk|exact heap_alloc_old w.drew _ hk)⟩⟩
  ·have:=grownCap_ge w (n+s.size) old e
   simp only[Array.size_append,List.size_toArray,size_zeroCells,hz1,hxl,Lib.strCells_length]
   omega
  ·simp only[Array.toList_append,List.append_assoc]
   rw[← List.append_assoc,← hlen]
   exact List.take_left
 rcases hown.2 with ⟨rfl,rfl⟩|⟨g,off,cap,cur,rfl,hbg,hg,hnc,hcm,hcs,htake⟩
 ·have hx:xs=[]:=List.eq_nil_of_length_eq_zero hxl
  subst hx
  by_cases hm:s.size=0
  ·have hn:Lib.strCells s=[]:=List.eq_nil_of_length_eq_zero (by rw[Lib.strCells_length];exact hm)
   refine ⟨.slice none 0 0,w,?_,by rw[hm,hn];exact hown,⟨rfl,rfl,rfl,Nat.le_refl _,fun _ _ _=>rfl⟩,fun b hb=>by cases hb⟩
   have hf:=Lib.run_firstCells_string (P:=P) w 1 s
   rw[hm]at hf
   simp[Builtin.append_,run_underlying ht,run_underlying hu,sizeOf,typeInfo,hi,hsize,Builtin.lenOf,hm,hf]
  ·have hr:=run_append_nil_string (P:=P) w t u ty e i z ht hu hi hz s (by omega) (by omega) (by rw[hby];omega)
   have hgr:=grown 0 (by omega)
   simp only[Nat.zero_add,List.nil_append,Array.empty_append]at hgr ⊢
   have e1:(s.data.map fun b=>Value.int .u8 b.toNat)=(Lib.strCells s).toArray:=by
    apply Array.ext'
    simp[Lib.strCells]
   rw[e1]at hr
   exact⟨_,_,hr,owns_base (ownsAt_of hgr.1) hbase,hgr.2,fun b hb=>.inl (hgr.1.lt b hb).1⟩
 ·by_cases hroom:n+s.size≤cap
  ·have hr:=run_append_room_off_str (P:=P) (w:=w) t u ty e i ht hu hi hsize g off n cap cur hg s hroom (by omega)
   refine ⟨_,_,hr,⟨hlen,.inr ⟨g,off,cap,_,rfl,hbg,setRow_heap w g cur _ e _ hg,hroom,hcm,?_,?_⟩⟩,⟨rfl,rfl,rfl,by simp,fun k _ hk=>setRow_other w g k _ (fun e=>hk (by simp[Value.ownBlock,e]))⟩,fun b hb=>.inr hb⟩
   ·simp only[List.size_toArray,List.length_append,List.length_take,List.length_drop,Array.length_toList,Lib.strCells_length]
    omega
   ·have e1:(cur.toList.take (off+n)++Lib.strCells s++cur.toList.drop (off+n+s.size)).drop off=(cur.toList.drop off).take (n * 1)++Lib.strCells s++cur.toList.drop (off+n+s.size):=by
     rw[List.append_assoc,List.drop_append,List.length_take,Array.length_toList,Nat.min_eq_left (by omega),show off - (off+n)=0 by omega,List.drop_zero,List.drop_take,List.append_assoc]
     rw[show off+n - off=n * 1 by omega]
    rw[List.toList_toArray,e1,htake,← hlen]
    exact List.take_left
  ·have holds:∀ j u,xs[j]?=some u→w.cell? ((⟨g,off,none⟩:Addr).add j)=some u:=hown.cells
   have hr:=Lib.run_append_grow_string (P:=P) w t u ty e i z ht hu hi hz ⟨g,off,none⟩ n cap xs (by rw[hsize];simpa using hxl) holds s (by omega) (by omega) (by rw[hby];exact growslice_fits (by omega) (by omega))
   have hgr:=grown cap (by omega)
   exact⟨_,_,hr,owns_base (ownsAt_of hgr.1) hbase,hgr.2,fun b hb=>.inl (hgr.1.lt b hb).1⟩
end
section
variable {X:Ctx}{Q:Exit→St→Prop}{S:St}{ops:Array Oper}{o:Oper}{rest:List Oper}{T:TypeId}
theorem n_appS {x y:Operand}{s g n t n':Nat}{E T2:TypeId}{f f':Nat→List D}{b:ByteArray}{ts:Array TypeId} (ho:o.op=.call { callee:=.builtin .append,args:=#[x,y],argTypes:=ts }) (hts:ts=#[T,T2]) (hd:o.dst=some t)
  (hx:S.ev X x=.os s g) (hg:S.γ s=g) (hσ:S.σ s=.arr E 1 n f) (hy:S.ev X y=.str b)
  {r q:TRow} (hr:nth X.Z.tab T=some r) (hk:Nat.beq r.k 3=true) (hE:r.el=E) (hr2:X.Z.P.underlying T2=some .string) (hq:nth X.Z.tab E=some q) (hq9:Nat.beq q.k 9=false) (hz:q.sz=1) (hzs:q.zs=[.i .u8]) (hqb:q.bytes=1)
  (hm:n+b.size≤140737488355328) (hn':n'=n+b.size) (h1:∀ i,i<n→f' i=f i) (h2:∀ i,i<b.size→f' (n+i)=[.int .u8 ((b.data.toList.getD i 0).toNat:Int)]) :
  NOp X o S (S.owned t s (.arr E 1 n' f')):=fun κ sv a w hs=>by
 subst hts hn'
 have hokr:=X.Z.tabOk _ _ hr (by intro e;rw[e]at hk;cases hk)
 have hokq:=X.Z.tabOk _ _ hq (by intro e;rw[e]at hq9;cases hq9)
 obtain ⟨iq,dq,hiq,hdq,hsq,hbq,⟨zv,hzv,hzf⟩,_⟩:=row_info hokq
 have hu:=slice_row hokr hk
 rw[hE]at hu
 have hown0:=hs.wld.own s
 rw[hσ]at hown0
 obtain ⟨xs,hown,hfl,hfc,hfr⟩:=hown0
 have hxv:=hs.ev x
 rw[hx]at hxv
 have hxe:a.eval x=sv s:=by
  generalize a.eval x=v at hxv
  cases hxv with
  |os _ _ _ _ hh _=>exact hh hg.symm
 have hyv:=hs.ev y
 rw[hy]at hyv
 have hye:a.eval y=.string b:=by
  generalize a.eval y=v at hyv
  cases hyv;rfl
 have hzl:zv.cells.size=1:=by have:=zr_len hzf;rw[hzs]at this;simpa using this
 have hle:∀ pv,Le κ κ S.γ (upd S.γ s (S.γ s+1)) sv (upd sv s pv):=le_renew κ S.γ sv s
 have hxl:xs.length=n * 1:=hown.1
 rw[hd]
 obtain ⟨v',w',hrun,hown',hgr,hwh⟩:=run_append_where_str (P:=X.Z.P) (w:=w) (X.base s) T T2 o.type E iq zv hu hr2 hiq hzv (by rw[hsq,hz]) (by rw[hbq,hqb]) hzl (sv s) n xs hown b (by unfold maxLen;omega) hm (hs.wld.baseS _)
 have hob:(sv s).ownBlock=blk (S.σ s) (sv s):=by
  rw[hσ]
  rcases hown.2 with ⟨e,_⟩|⟨_,_,_,_,e,_⟩<;>rw[e]<;>rfl
 rw[hob]at hgr
 refine ⟨v',w',κ,_,.inl ?_,sim_owned hs t s (pv:=v') ?_ hgr (fun b' hb'=>?_) ?_⟩
 ·simp[execOp,ho,resolve,invoke,builtin,hxe,hye,hrun]
 ·rcases hown'.2 with ⟨e,_⟩|⟨_,_,_,_,e,_⟩<;>rw[e]<;>rfl
 ·rw[← hob]
  refine hwh b' ?_
  rcases hown'.2 with ⟨e,_⟩|⟨_,_,_,_,e,_⟩<;>(rw[e]at hb' ⊢;exact hb')
 ·have hcell:∀ k,k<b.size→((xs++Lib.strCells b).drop ((n+k) * 1)).take 1=[.int .u8 ((b.data.toList.getD k 0).toNat:Int)]:=fun k hk=>by
   have hk2:k<b.data.toList.length:=by rw[Array.length_toList];exact hk
   rw[append_chunkR hxl,Nat.mul_one,Lib.strCells,List.drop_eq_getElem_cons (by simpa using hk2)]
   have hk3:k<b.data.size:=hk
   simp only[List.map_cons,List.map_nil,List.map_drop,List.take_succ_cons,List.take_zero,List.getElem_map,List.getD_eq_getElem?_getD,List.getElem?_eq_getElem hk2,Option.getD_some]
  refine ⟨_,by rw[upd_same];exact hown',fun i hi=>?_,fun i hi=>?_,fun i hi=>?_⟩
  ·by_cases hin:i<n
   ·rw[h1 i hin];exact hfl i hin
   ·obtain ⟨k,rfl⟩:∃ k,i=n+k:=⟨i - n,by omega⟩
    rw[h2 k (by omega)];rfl
  ·by_cases hin:i<n
   ·rw[h1 i hin];exact hfc i hin
   ·obtain ⟨k,rfl⟩:∃ k,i=n+k:=⟨i - n,by omega⟩
    rw[h2 k (by omega)];rfl
  ·by_cases hin:i<n
   ·rw[h1 i hin,append_chunkL hxl hin];exact(hfr i hin).mono (hle _)
   ·obtain ⟨k,rfl⟩:∃ k,i=n+k:=⟨i - n,by omega⟩
    rw[h2 k (by omega),hcell k (by omega)]
    exact .cons _ _ _ _ (.int _ _) .nil
def catS (a b:ByteArray):ByteArray:=⟨(a.data.toList++b.data.toList).toArray⟩
theorem catS_eq (a b:ByteArray):catS a b=a++b:=by
 apply ByteArray.ext
 simp[catS,ByteArray.data_append]
theorem q_addS {x y:Operand}{T2:TypeId}{a b:ByteArray} (ho:o.op=.binOp .add T x y T2) (hx:S.ev X x=.str a) (hy:S.ev X y=.str b) (hn:a.size+b.size≤9223372036854775807):QOp X o S (.str (catS a b)):=fun κ sv act w hs=>by
 have hxv:=hs.ev x
 rw[hx]at hxv
 have hxe:act.eval x=.string a:=by
  generalize act.eval x=v at hxv
  cases hxv;rfl
 have hyv:=hs.ev y
 rw[hy]at hyv
 have hye:act.eval y=.string b:=by
  generalize act.eval y=v at hyv
  cases hyv;rfl
 refine ⟨.string (catS a b),.str _,fun w' _=>?_⟩
 rw[catS_eq]
 simp only[execOp,ho,hxe,hye]
 simp[eqGuard,binOp,run_string_add_sum w' a b hn]
def subB (s:ByteArray) (i j:Nat):ByteArray:=⟨((s.data.toList.take j).drop i).toArray⟩
theorem subB_eq (s:ByteArray) (i j:Nat):s.extract i j=subB s i j:=by
 apply ByteArray.ext
 apply Array.toList_inj.1
 simp[subB,ByteArray.data_extract,List.drop_take]
theorem q_slS {x:Operand}{lo hi:Option Operand}{s:ByteArray}{i j:Nat} (ho:o.op=.slice T x lo hi none) (hx:S.ev X x=.str s) (hlo:bndd X S lo i 0) (hhi:bndd X S hi j s.size) (hij:i≤j) (hjn:j≤s.size) (hu:X.Z.P.underlying T=some .string):QOp X o S (.str (subB s i j)):=fun κ sv act w hs=>by
 have hxv:=hs.ev x
 rw[hx]at hxv
 have hxe:act.eval x=.string s:=by
  generalize act.eval x=v at hxv
  cases hxv;rfl
 refine ⟨.string (subB s i j),.str _,fun w' _=>?_⟩
 have h1:=hlo.v hs
 have h2:=hhi.v hs
 rw[← subB_eq]
 have key:(Instr.sliceAt T (.string s) (lo.map act.eval) (hi.map act.eval) none).run X.Z.P w'=.ok (.string (s.extract i j)) w':=by
  rcases h1 with ⟨h1,rfl⟩|h1<;>rcases h2 with ⟨h2,rfl⟩|h2<;>rw[h1,h2]<;>simp[Instr.sliceAt,Instr.slice,Instr.sliceBounds,Instr.sliceBound,asIntOf,run_underlying hu,hij,hjn]
 simp only[execOp,ho,hxe,Option.map_none]
 simp[key]
end
end Go.Ab
