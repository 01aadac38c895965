/- Walks by computing: what each function of the program that the laws reach gives for what it gets, as plain Lean, and that it is so; without a condition but those that stand in each theorem. -/
import Derived.MapKept
import Derived.MapFrom
import Derived.Carry
import Derived.Scope
import Derived.Test.YtafnhieaeejlcaaDoorW1
import Derived.Test.YtafnhieaeejlcaaDoorW2
import Derived.Test.YtafnhieaeejlcaaDoorW3
import Derived.Test.YtafnhieaeejlcaaDoorW4
import Derived.Test.YtafnhieaeejlcaaDoorW5
set_option linter.all false
namespace Go.Ab
open Go Go.RowKit
theorem z5{E z n E' z' n' :Nat}{f f' :Nat→List D}(v:Value):cx (.arr E z n f) v=cx (.arr E' z' n' f') v:=by
 cases v with
 |pointer a=>cases a<;>rfl
 |slice a _ _=>cases a<;>rfl
 |map a=>cases a<;>rfl
 |_=>rfl
def Oy(v:Option Value)(i d:Nat):Prop:=(v=none∧i=d)∨v=some (.int .i64 i)
theorem oF{P:Program}{w:World}{T e:TypeId}{q:TRow}(hu:P.underlying T=some (.slice e))(hq:jz P e q=true){a:Option Addr}{len cap:Nat}{lo hi:Option Value}{i j:Nat}
 (hlo:Oy lo i 0)(hhi:Oy hi j len)(hij:i≤j)(hjc:j≤cap):
 (Instr.sliceAt T (.slice a len cap) lo hi none).run P w= .ok (.slice (if cap=i then a else a.map (·.add (i*q.sz))) (j-i) (cap-i)) w:=by
 rcases hlo with⟨rfl,rfl⟩|rfl<;>rcases hhi with⟨rfl,rfl⟩|rfl<;>
  simp[Instr.sliceAt,Instr.slice,Instr.sliceBounds,Instr.sliceBound,asIntOf,run_underlying hu,dN hq,hij,hjc]
section
variable {X:Ctx} {o:Oper} {S:St} {x:Operand}
def xV(X:Ctx)(S:St)(v:Option Operand)(i d:Nat):Prop:=(v=none∧i=d)∨∃y,v=some y∧S.ev X y= .int .i64 i
theorem xV.v{κ:Nat→Nat→Option Value}{sv:Nat→Value}{a:Act}{w:World}(hs:dh X κ sv S a w){v:Option Operand}{i d:Nat}(h:xV X S v i d):Oy (v.map a.eval) i d:=by
 rcases h with⟨rfl,rfl⟩|⟨y,rfl,hy⟩
 ·exact .inl ⟨rfl,rfl⟩
 ·exact .inr (by simp[dw hs hy])
theorem O7{T:TypeId}{r q:TRow}{z n i j:Nat}{f f' :Nat→List D}{lo hi:Option Operand}(ho:o.op= .slice T x lo hi none)(hx:S.ev X x= .sl z n f)
 (hlo:xV X S lo i 0)(hhi:xV X S hi j n)(hij:i≤j)(hjn:j≤n)
 (hr:nth X.Z.dS T=some r)(hk:Nat.beq r.k 3=true)(hq:nth X.Z.dS r.el=some q)(hq9:Nat.beq q.k 9=false)(hz:q.sz=z)(hf:∀k,k<j-i→f' k=f (i+k)):
 eh X o S (.sl z (j-i) f'):=fun κ sv a w hs=>by
 have hokr:=X.Z.tabOk _ _ hr (by intro e;rw[e]at hk;cases hk)
 have hokq:=X.Z.tabOk _ _ hq (by intro e;rw[e]at hq9;cases hq9)
 have hu:=cW hokr hk
 have hxv:=hs.ev x
 rw[hx]at hxv
 have key:∀(b:Option Addr) (cap:Nat),a.eval x= .slice b n cap→n≤cap→∀w',(execOp a.eval o).run X.Z.P w' = .ok (.value (.slice (if cap=i then b else b.map (·.add (i*q.sz))) (j-i) (cap-i))) w' :=fun b cap he hnc w' =>by
  have:=oF (P:=X.Z.P) (w:=w') (a:=b) (len:=n) (cap:=cap) hu hokq (hlo.v hs) (hhi.v hs) hij (by omega)
  simp only[execOp,ho,he,Option.map_none]
  simp[this]
 generalize he:a.eval x=v at hxv
 cases hxv with
 |sl _ _ _ b off cap u hnc h1 h2 h3 h4=>
  refine⟨_, ?_,fun w' _=>key _ _ he hnc w'⟩
  by_cases hci:cap=i
  ·have:j-i=0:=by omega
   simp only[if_pos hci]
   rw[this]
   exact .slE _ _ _ _
  ·simp only[if_neg hci,Option.map_some,dM]
   subst hz
   refine .sl _ _ _ b (off+i*q.sz) (cap-i) (fun k=>u (i+k)) (by omega) (fun k hk=>by rw[hf k hk];exact h1 _ (by omega)) (fun k hk=>by rw[hf k hk];exact h2 _ (by omega)) (fun k hk=>by rw[hf k hk];exact h3 _ (by omega)) (fun k m v hk hm=> ?_)
   have:=h4 (i+k) m v (by omega) hm
   rw[Nat.add_mul]at this
   rw[←this];congr 1;omega
 |sl0=>
  have hj:j=0:=by omega
  have hi:i=0:=by omega
  subst hj hi
  exact⟨_, .sl0 _ _,fun w' _=>key _ _ he (Nat.le_refl _) w'⟩
 |slE _ _ ad cap=>
  have hj:j=0:=by omega
  have hi:i=0:=by omega
  subst hj hi
  refine⟨_, ?_,fun w' _=>key _ _ he (Nat.zero_le _) w'⟩
  split
  ·exact .slE _ _ _ _
  ·exact .slE _ _ _ _
theorem Ou{T:TypeId}{r q:TRow}{z n i j m:Nat}{f f' :Nat→List D}{lo:Option Operand}{hi mx:Operand}(ho:o.op= .slice T x lo (some hi) (some mx))(hx:S.ev X x= .sl z n f)
 (hlo:xV X S lo i 0)(hhi:S.ev X hi= .int .i64 j)(hmx:S.ev X mx= .int .i64 m)(hij:i≤j)(hjm:j≤m)(hmn:m≤n)
 (hr:nth X.Z.dS T=some r)(hk:Nat.beq r.k 3=true)(hq:nth X.Z.dS r.el=some q)(hq9:Nat.beq q.k 9=false)(hz:q.sz=z)(hf:∀k,k<j-i→f' k=f (i+k)):
 eh X o S (.sl z (j-i) f'):=fun κ sv a w hs=>by
 have hokr:=X.Z.tabOk _ _ hr (by intro e;rw[e]at hk;cases hk)
 have hokq:=X.Z.tabOk _ _ hq (by intro e;rw[e]at hq9;cases hq9)
 have hu:=cW hokr hk
 have hxv:=hs.ev x
 rw[hx]at hxv
 have e1:=dw hs hhi
 have e2:=dw hs hmx
 have key:∀(b:Option Addr) (cap:Nat),a.eval x= .slice b n cap→n≤cap→∀w',(execOp a.eval o).run X.Z.P w' = .ok (.value (.slice (if m=i then b else b.map (·.add (i*q.sz))) (j-i) (m-i))) w' :=fun b cap he hnc w' =>by
  have hmc:m≤cap:=by omega
  have:(Instr.sliceAt T (.slice b n cap) (lo.map a.eval) (some (.int .i64 j)) (some (.int .i64 m))).run X.Z.P w' = .ok (.slice (if m=i then b else b.map (·.add (i*q.sz))) (j-i) (m-i)) w' :=by
   rcases hlo.v hs with⟨h1,rfl⟩|h1<;>rw[h1]<;>
    simp[Instr.sliceAt,Instr.slice,Instr.sliceBounds,Instr.sliceBound,asIntOf,run_underlying hu,dN hokq,hij,hjm,hmc]
  simp only[execOp,ho,he,Option.map_some,e1,e2]
  simp[this]
 generalize he:a.eval x=v at hxv
 cases hxv with
 |sl _ _ _ b off cap u hnc h1 h2 h3 h4=>
  refine⟨_, ?_,fun w' _=>key _ _ he hnc w'⟩
  by_cases hci:m=i
  ·have:j-i=0:=by omega
   simp only[if_pos hci]
   rw[this]
   exact .slE _ _ _ _
  ·simp only[if_neg hci,Option.map_some,dM]
   subst hz
   refine .sl _ _ _ b (off+i*q.sz) (m-i) (fun k=>u (i+k)) (by omega) (fun k hk=>by rw[hf k hk];exact h1 _ (by omega)) (fun k hk=>by rw[hf k hk];exact h2 _ (by omega)) (fun k hk=>by rw[hf k hk];exact h3 _ (by omega)) (fun k m v hk hm=> ?_)
   have:=h4 (i+k) m v (by omega) hm
   rw[Nat.add_mul]at this
   rw[←this];congr 1;omega
 |sl0=>
  have hj:j=0:=by omega
  have hi:i=0:=by omega
  have hm:m=0:=by omega
  subst hj hi hm
  exact⟨_, .sl0 _ _,fun w' _=>by have:=key _ _ he (Nat.le_refl _) w';simpa using this⟩
 |slE _ _ ad cap=>
  have hj:j=0:=by omega
  have hi:i=0:=by omega
  have hm:m=0:=by omega
  subst hj hi hm
  exact⟨_, .slE _ _ _ _,fun w' _=>by have:=key _ _ he (Nat.zero_le _) w';simpa using this⟩
theorem O6{T E:TypeId}{r q:TRow}{s g z n i j t n' :Nat}{f f' :Nat→List D}{lo hi:Option Operand}(ho:o.op= .slice T x lo hi none)(hd:o.dst=some t)(hx:S.ev X x= .os s g)(hg:S.γ s=g)(hσ:S.σ s= .arr E z n f)
 (hlo:xV X S lo i 0)(hhi:xV X S hi j n)(hij:i≤j)(hjn:j≤n)
 (hr:nth X.Z.dS T=some r)(hk:Nat.beq r.k 3=true)(hE:r.el=E)(hq:nth X.Z.dS E=some q)(hq9:Nat.beq q.k 9=false)(hz:q.sz=z)(hn' :n' =j-i)(hf:∀k,k<j-i→f' k=f (i+k)):
 kL X o S (S.owned t s (.arr E z n' f')):=fun κ sv a w hs=>by
 subst hn' hz hE
 have hokr:=X.Z.tabOk _ _ hr (by intro e;rw[e]at hk;cases hk)
 have hokq:=X.Z.tabOk _ _ hq (by intro e;rw[e]at hq9;cases hq9)
 have hu:=cW hokr hk
 have hown0:=hs.wld.own s
 rw[hσ]at hown0
 obtain⟨xs,hown,hfl,hfc,hfr⟩:=hown0
 have hxv:=hs.ev x
 rw[hx]at hxv
 have hxe:a.eval x=sv s:=by
  generalize a.eval x=v at hxv
  cases hxv with
  |os _ _ _ _ hh _=>exact hh hg.symm
 have key:∀(b:Option Addr) (cap:Nat),sv s= .slice b n cap→n≤cap→(execOp a.eval o).run X.Z.P w= .ok (.value (.slice (if cap=i then b else b.map (·.add (i*q.sz))) (j-i) (cap-i))) w:=fun b cap he hnc=>by
  have:=oF (P:=X.Z.P) (w:=w) (a:=b) (len:=n) (cap:=cap) hu hokq (hlo.v hs) (hhi.v hs) hij (by omega)
  simp only[execOp,ho,hxe,he,Option.map_none]
  simp[this]
 have hdj:∀(k:Nat),k<j-i→((xs.drop (i*q.sz)).take ((j-i)*q.sz)|>.drop (k*q.sz)).take q.sz=(xs.drop ((i+k)*q.sz)).take q.sz:=fun k hk=>by
  have h1:k*q.sz+q.sz≤(j-i)*q.sz:=by have:=Nat.mul_le_mul_right q.sz (show k+1≤j-i by omega);rw[Nat.add_mul]at this;omega
  rw[List.drop_take,List.take_take,Nat.min_eq_left (by omega),List.drop_drop,Nat.add_mul]
 have hfin:∀pv:Value,pv.oneCell' =true→(∀b,cx (S.σ s) pv=some b→cx (S.σ s) (sv s)=some b)→eJ w (X.base s) r.el q.sz pv (j-i) ((xs.drop (i*q.sz)).take ((j-i)*q.sz))→
  (execOp a.eval o).run X.Z.P w= .ok (.value pv) w→
  ∃v w' κ' sv',((execOp a.eval o).run X.Z.P w= .ok (.value v) w'∨((execOp a.eval o).run X.Z.P w= .ok .skip w'∧v=Go.undef))∧dh X κ' sv' (S.owned t s (.arr r.el q.sz (j-i) f')) (a.put o.dst v) w' :=fun pv h1c hb hO hrun=>by
  rw[hd]
  refine⟨pv,w,κ,bN sv s pv, .inl hrun,dY hs t s (pv:=pv) h1c (bL (Below.refl _ _) _) (fun b hb' => .inr (hb b (by rw[hσ];rw[z5]at hb';exact hb'))) ?_⟩
  refine⟨_,by rw[aj];exact hO,fun k hk=>by rw[hf k hk];exact hfl _ (by omega),fun k hk=>by rw[hf k hk];exact hfc _ (by omega),fun k hk=> ?_⟩
  rw[hf k hk,hdj k hk]
  exact(hfr (i+k) (by omega)).mono (dO κ S.γ sv s pv)
 rcases hown.2 with⟨hv,hn⟩|⟨b,off,cap,cur,hv,hbase,hh,hnc,hcm,hcs,htake⟩
 ·have hj:j=0:=by omega
  have hi:i=0:=by omega
  subst hj hi
  refine hfin _ rfl (fun b hb=> ?_) ⟨by simp, .inl ⟨rfl,rfl⟩⟩ (by have:=key none 0 (by rw[hv,hn]) (by omega);simpa using this)
  rw[hσ]at hb;cases hb
 ·refine hfin _ ?_ ?_ ?_ (key _ _ hv hnc)
  ·simp only[Option.map_some];split<;>rfl
  ·intro b' hb'
   rw[hσ]at hb'⊢
   rw[hv]
   simp only[Option.map_some,dM]at hb'
   split at hb' <;>exact hb'
  ·have hxl:=hown.1
   have hin:i*q.sz≤n*q.sz:=Nat.mul_le_mul_right _ (by omega)
   have hjn' :i*q.sz+(j-i)*q.sz≤n*q.sz:=by rw[←Nat.add_mul];exact Nat.mul_le_mul_right _ (by omega)
   refine⟨by simp;omega, .inr ?_⟩
   by_cases hci:cap=i
   ·have h0:j-i=0:=by omega
    rw[if_pos hci,h0]
    exact⟨b,off,cap-i,cur,rfl,hbase,hh,by omega,by omega,by rw[show cap-i=0 by omega];omega,by simp⟩
   ·rw[if_neg hci]
    simp only[Option.map_some,dM]
    refine⟨b,off+i*q.sz,cap-i,cur,rfl,hbase,hh,by omega,by omega, ?_, ?_⟩
    ·have:i*q.sz+(cap-i)*q.sz=cap*q.sz:=by rw[←Nat.add_mul];congr 1;omega
     omega
    ·rw[←htake,List.drop_take,List.take_take,List.drop_drop,Nat.min_eq_left (by omega)]
end
end Go.Ab
namespace Go.Ab
open Go Go.RowKit
section
variable {X:Ctx} {o:Oper} {S:St} {x y:Operand} {T T2:TypeId}
theorem m8{P:Program}{t:TypeId}{d:TypeDesc}{w:World}(hd:P.underlying t=some d)(ha:mb P t=false){a:Addr}{v:Value}(h:w.cell? a=some v):(loadVar t a).run P w= .ok v w:=by
 simp[loadVar,ja hd,ha,h]
theorem Nr{l:List D}{j:Nat}{d:D}{td:TypeDesc}(ho:o.op= .load T x)(hx:S.ev X x= .rp l j)(hu:X.Z.P.underlying T=some td)(ha:mb X.Z.P T=false)(hd:nth l j=some d):eh X o S d:=fun κ sv a w hs=>by
 have h1:=hs.ev x
 rw[hx]at h1
 generalize he:a.eval x=v at h1
 cases h1 with
 |rp _ _ b off u _ hu' hκ=>
  rw[dX]at hd
  obtain⟨vj,hv,hrep⟩:=hu'.get hd
  refine⟨vj,hrep,fun w' hb=> ?_⟩
  have hc:=hs.wld.imm _ _ _ (hκ j vj hv)
  have hc' :w'.cell? ⟨b,off+j,none⟩=some vj:=(hb.cell (World.block_lt_of_cell? w _ hc)).trans hc
  simp[execOp,ho,he,Instr.loadAt,Instr.sureAddr,m8 hu ha hc']
theorem MY{s g j:Nat}{l:List D}{d:D}{td:TypeDesc}(ho:o.op= .load T x)(hx:S.ev X x= .bx s g j)(hu:X.Z.P.underlying T=some td)(ha:mb X.Z.P T=false)
 (hg:S.γ s=g)(hσ:S.σ s= .box l)(hd:nth l j=some d):eh X o S d:=fun κ sv a w hs=>by
 obtain⟨b,Tb,cs,he,_,hh,hrep,_⟩:=gZ hs hx hg hσ
 rw[dX]at hd
 obtain⟨vj,hv,hrj⟩:=hrep.get hd
 refine⟨vj,hrj,fun w' hb=> ?_⟩
 have hh' :w'.heap[b]? =some (.cells (List.toArray cs) Tb (0,0)):=by rw[hb.block b (Array.getElem?_eq_some_iff.1 hh).1];exact hh
 have hc' :w'.cell? ⟨b,j,none⟩=some vj:=by rw[cell_of_row w' b j _ _ _ hh'];simpa using hv
 simp[execOp,ho,he,Instr.loadAt,Instr.sureAddr,m8 hu ha hc']
theorem Na{s:ByteArray}{ts:Array TypeId}(ho:o.op= .call {callee:= .builtin .len,args:= #[x],argTypes:=ts})(hT:ts[0]? =some T)(hx:S.ev X x= .str s)
 (hu:X.Z.P.underlying T=some .string):eh X o S (.int .i64 s.size):=fun κ sv a w hs=>
 ⟨.int .i64 s.size, .int _ _,fun w' _=>by simp[execOp,ho,resolve,invoke,builtin,Builtin.len_,hT,sG hs hx,run_underlying hu,goInt]⟩
theorem Oa{s:ByteArray}{i:Int}{b:UInt8}(ho:o.op= .index T x y)(hx:S.ev X x= .str s)(hy:S.ev X y= .int .i64 i)(hu:X.Z.P.underlying T=some .string)(h0:0≤i)(hb:s[i.toNat]? =some b):
 eh X o S (.int .u8 b.toNat):=fun κ sv a w hs=>
 ⟨.int .u8 b.toNat, .int _ _,fun w' _=>by simp[execOp,ho,sG hs hx,dw hs hy,Instr.index,asIntOf,run_underlying hu,h0,hb]⟩
theorem Ql{s t:ByteArray}(ho:o.op= .binOp .eql T x y T2)(hx:S.ev X x= .str s)(hy:S.ev X y= .str t):eh X o S (.bool (s.toList==t.toList)):=fun κ sv a w hs=>
 ⟨.bool (s.toList==t.toList), .bool _,fun w' _=>by simp[execOp,ho,sG hs hx,sG hs hy,eqGuard,binOp,Op.stringOp]⟩
theorem Qv{s t:ByteArray}(ho:o.op= .binOp .neq T x y T2)(hx:S.ev X x= .str s)(hy:S.ev X y= .str t):eh X o S (.bool (!(s.toList==t.toList))):=fun κ sv a w hs=>
 ⟨.bool (!(s.toList==t.toList)), .bool _,fun w' _=>by simp[execOp,ho,sG hs hx,sG hs hy,eqGuard,binOp,Op.stringOp]⟩
end
section
variable {X:Ctx} {o:Oper} {S:St} {x y:Operand} {T T2:TypeId}
theorem pW{P:Program}{w:World}{ty E:TypeId}{q:TRow}(hu:P.underlying T=some (.slice E))(hq:jz P E q=true){d a:Option Addr}{n m c c' :Nat}(h0:Nat.min m n=0):
 (Builtin.copy_ #[T,T2] ty #[.slice d n c, .slice a m c']).run P w= .ok (goInt 0) w:=by
 have hl:∀(x:Addr),(loadCells x 0).run P w= .ok #[] w:=fun x=>by simpa using run_loadCells_list (P:=P) w x [] (by simp)
 cases d<;>cases a<;>simp[Builtin.copy_,run_underlying hu,Builtin.lenOf,Builtin.firstCells,dN hq,h0,storeCells,hl]
theorem xL{P:Program}{w:World}{ty E:TypeId}{q:TRow}(hu:P.underlying T=some (.slice E))(hq:jz P E q=true){g off n m c c' k:Nat}{ad:Addr}{cur:Array Value}{news:List Value}{e:TypeId}(hk:Nat.min m n=k)
 (hg:w.heap[g]? =some (.cells cur e (0,0)))(hl:news.length=k*q.sz)(hn:∀j v,news[j]? =some v→w.cell? (ad.add j)=some v)(h1:∀v∈news,v.oneCell' =true)(hfit:off+news.length≤cur.size):
 (Builtin.copy_ #[T,T2] ty #[.slice (some ⟨g,off,none⟩) n c, .slice (some ad) m c']).run P w= .ok (goInt k) (w.setRow g (cur.toList.take off++news++cur.toList.drop (off+news.length)).toArray):=by
 have hld:=run_loadCells_list (P:=P) w ad news hn
 rw[hl]at hld
 have hst:=run_storeCells_at P g off e news 0 cur w hg (by simpa using hfit) h1
 simp only[Nat.add_zero]at hst
 simp[Builtin.copy_,run_underlying hu,Builtin.lenOf,Builtin.firstCells,dN hq,hk,hld,hst]
theorem MD{r q:TRow}{s g z n m t k:Nat}{E:TypeId}{f h f' :Nat→List D}{ts:Array TypeId}(ho:o.op= .call {callee:= .builtin .copy,args:= #[x,y],argTypes:=ts})(hts:ts= #[T,T2])(hd:o.dst=some t)
 (hx:S.ev X x= .os s g)(hg:S.γ s=g)(hσ:S.σ s= .arr E z n f)(hy:S.ev X y= .sl z m h)
 (hr:nth X.Z.dS T=some r)(hk:Nat.beq r.k 3=true)(hE:r.el=E)(hq:nth X.Z.dS E=some q)(hq9:Nat.beq q.k 9=false)(hz:q.sz=z)(hz0:Nat.beq z 0=false)
 (hkk:Nat.min m n=k)(h1:∀i,i<k→f' i=h i)(h2:∀i,k≤i→i<n→f' i=f i):
 kL X o S ⟨bN S.ρ t (.int .i64 k),S.γ,bN S.σ s (.arr E z n f')⟩:=fun κ sv a w hs=>by
 subst hts hE hz
 have hokr:=X.Z.tabOk _ _ hr (by intro e;rw[e]at hk;cases hk)
 have hokq:=X.Z.tabOk _ _ hq (by intro e;rw[e]at hq9;cases hq9)
 have hu:=cW hokr hk
 have hown0:=hs.wld.own s
 rw[hσ]at hown0
 obtain⟨xs,hown,hfl,hfc,hfr⟩:=hown0
 have hxv:=hs.ev x
 rw[hx]at hxv
 have hxe:a.eval x=sv s:=by
  generalize a.eval x=v at hxv
  cases hxv with
  |os _ _ _ _ hh _=>exact hh hg.symm
 have hyv:=hs.ev y
 rw[hy]at hyv
 have hz1:0<q.sz:=by
  cases hzz:q.sz with
  |zero=>rw[hzz]at hz0;cases hz0
  |succ=>omega
 have hkm:k≤m:=hkk▸Nat.min_le_left _ _
 have hkn:k≤n:=hkk▸Nat.min_le_right _ _
 have hfin:∀(w' :World) (xs' :List Value),(Builtin.copy_ #[T,T2] o.type #[a.eval x,a.eval y]).run X.Z.P w= .ok (goInt k) w'→w.grownBy w' (cx (S.σ s) (sv s))→eJ w' (X.base s) r.el q.sz (sv s) n xs'→
  (∀i,i<n→(f' i).length=q.sz)→(∀i,i<n→aV (f' i)=true)→(∀i,i<n→RepL κ S.γ sv (f' i) ((xs'.drop (i*q.sz)).take q.sz))→
  ∃v w' κ' sv',((execOp a.eval o).run X.Z.P w= .ok (.value v) w'∨((execOp a.eval o).run X.Z.P w= .ok .skip w'∧v=Go.undef))∧dh X κ' sv' ⟨bN S.ρ t (.int .i64 k),S.γ,bN S.σ s (.arr r.el q.sz n f')⟩ (a.put o.dst v) w' :=fun w' xs' hrun hgr ho' e2 e3 e4=>by
  have hW:=hs.wld.rewrite s (.arr r.el q.sz n f') hgr (by rw[hσ];exact z5 _) ⟨xs',ho',e2,e3,e4⟩ S.ρ
  have hS:dh X κ sv ⟨S.ρ,S.γ,bN S.σ s (.arr r.el q.sz n f')⟩ a w' :=⟨hs.size,iJ hs s hgr,hs.slot,hW⟩
  rw[hd]
  refine⟨.int .i64 k,w',κ,sv, .inl ?_,hS.put (some t) (.int _ _)⟩
  simp[execOp,ho,resolve,invoke,builtin,hrun,goInt]
 have hzero:∀(b:Option Addr) (cap:Nat),a.eval y= .slice b m cap→k=0→∃v w' κ' sv',((execOp a.eval o).run X.Z.P w= .ok (.value v) w'∨((execOp a.eval o).run X.Z.P w= .ok .skip w'∧v=Go.undef))∧dh X κ' sv' ⟨bN S.ρ t (.int .i64 k),S.γ,bN S.σ s (.arr r.el q.sz n f')⟩ (a.put o.dst v) w' :=fun b cap hye h0=>by
  refine hfin w xs ?_ (bL (Below.refl _ _) _) hown (fun i hi=>by rw[h2 i (by omega) hi];exact hfl i hi) (fun i hi=>by rw[h2 i (by omega) hi];exact hfc i hi) (fun i hi=>by rw[h2 i (by omega) hi];exact hfr i hi)
  rw[hye,hxe,h0]
  rcases hown.2 with⟨hv,_⟩|⟨g',off,cap',cur,hv,_⟩
  ·rw[hv];have:=pW (T2:=T2) (w:=w) (ty:=o.type) (d:=none) (a:=b) (n:=0) (m:=m) (c:=0) (c' :=cap) hu hokq (by simp)
   exact this
  ·rw[hv];exact pW hu hokq (by rw[hkk,h0])
 generalize hye:a.eval y=v at hyv
 cases hyv with
 |sl0=>exact hzero _ _ hye (by omega)
 |slE=>exact hzero _ _ hye (by omega)
 |sl _ _ _ b off cap u hmc hlz hac hul hκ=>
  by_cases hk0:k=0
  ·exact hzero _ _ hye hk0
  have hulen:∀i,i<k→(u i).length=q.sz:=fun i hi=>by rw[(hul i (by omega)).length,hlz i (by omega)]
  have hnl:(((List.range k).map u).flatten).length=k*q.sz:=by
   rw[nO _ (z:=q.sz) (fun c hc=>by
    obtain⟨j,hj,rfl⟩:=List.mem_map.1 hc
    exact hulen j (by simpa using hj))]
   simp
  have hcellat:∀j v,(((List.range k).map u).flatten)[j]? =some v→∃i l,i<k∧l<q.sz∧j=i*q.sz+l∧(u i)[l]? =some v:=by
   intro j v hj
   have hjl:=(List.getElem?_eq_some_iff.1 hj).1
   rw[hnl]at hjl
   have hl:j%q.sz<q.sz:=Nat.mod_lt _ hz1
   have hi:j/q.sz<k:=(Nat.div_lt_iff_lt_mul hz1).2 hjl
   have e:j=j/q.sz*q.sz+j%q.sz:=by rw[Nat.mul_comm];exact(Nat.div_add_mod j q.sz).symm
   refine⟨j/q.sz,j%q.sz,hi,hl,e, ?_⟩
   rw[e,mD _ (z:=q.sz) (fun c hc=>by
    obtain⟨i,hi,rfl⟩:=List.mem_map.1 hc
    exact hulen i (by simpa using hi)) _ _ hl]at hj
   simpa[hi]using hj
  have hxl:=hown.1
  have hknz:k*q.sz≤n*q.sz:=Nat.mul_le_mul_right _ hkn
  rcases hown.2 with⟨hv,hn0⟩|⟨g',off',cap',cur,hv,hbase,hheap,hnc,hcm,hsz,htake⟩
  ·omega
  have hcap:n*q.sz≤cap' *q.sz:=Nat.mul_le_mul_right _ hnc
  have hrun:=xL (T2:=T2) (w:=w) (ty:=o.type) (c:=cap') (c' :=cap) (ad:=⟨b,off,none⟩) (off:=off') hu hokq hkk hheap hnl
   (fun j v hj=>by
     obtain⟨i,l,hi,hl,rfl,hv⟩:=hcellat j v hj
     rw[dM,←Nat.add_assoc]
     exact hs.wld.imm _ _ _ (hκ i l v (by omega) hv))
   (fun v hv=>by
     obtain⟨j,hj⟩:=List.getElem?_of_mem hv
     obtain⟨i,l,hi,hl,rfl,hv⟩:=hcellat j v hj
     exact RepL.kq (hul i (by omega)) (hac i (by omega)) v (List.mem_of_getElem? hv))
   (by rw[hnl];omega)
  obtain⟨news,hnews⟩:∃news,((List.range k).map u).flatten=news:=⟨_,rfl⟩
  have hfc1:=qJ u k hulen
  rw[hnews]at hrun hnl hfc1
  refine hfin _ (news++xs.drop (k*q.sz)) (by rw[hxe,hye,hv];exact hrun) (by rw[hσ,hv];exact ga _ _ _) ?_ (fun i hi=> ?_) (fun i hi=> ?_) (fun i hi=> ?_)
  ·refine⟨by simp[hnl];omega, .inr ⟨g',off',cap',_,hv,hbase,setRow_heap w g' cur _ _ (0,0) hheap,hnc,hcm, ?_, ?_⟩⟩
   ·simp[hnl];omega
   ·have:=qz (cur:=cur.toList) (ds:=news) (off:=off') (p:=0) (N:=n*q.sz) (by rw[hnl];omega) (by simp;omega)
    simp only[Nat.add_zero,Nat.zero_add,List.take_zero,List.nil_append]at this
    rw[this,htake,hnl]
  ·by_cases hik:i<k
   ·rw[h1 i hik];exact hlz i (by omega)
   ·rw[h2 i (by omega) hi];exact hfl i hi
  ·by_cases hik:i<k
   ·rw[h1 i hik];exact hac i (by omega)
   ·rw[h2 i (by omega) hi];exact hfc i hi
  ·by_cases hik:i<k
   ·rw[h1 i hik,jk hnl hik,hfc1 i hik];exact hul i (by omega)
   ·rw[h2 i (by omega) hi]
    obtain⟨j,rfl⟩:∃j,i=k+j:=⟨i-k,by omega⟩
    rw[jh hnl,List.drop_drop,←Nat.add_mul]
    exact hfr _ hi
end
end Go.Ab
namespace Go.Ab
open Go Go.RowKit
set_option linter.all false
structure v5 (Z:Seat) (f:FuncId) (l l' A:List D) (R:D) (E z n:Nat) (el:Nat→List D):Prop where
 pureA:af A
 purel:af l
 purel' :af l'
 cell' :aV l' =true
 poR:PO R
 pureE:∀i,i<n→af (el i)
 body:fN Z.P f
 calls:∀(w:World) (κ:Nat→Nat→Option Value) (args:List Value) (b:Nat) (T:TypeId) (cs:List Value),Fits κ w→(∀o,κ b o=none)→w.heap[b]? =some (.cells (List.toArray cs) T (0,0))→RepL κ rI mA l cs→jD Z κ→RepL κ rI mA A args→
  Calls Z.P f (Value.pointer (some ⟨b,0,none⟩)::args).toArray w fun e w' =>∃v sl κ' cs' T',e= .returned v∧w'.heap[b]? =some (.cells (List.toArray cs') T' (0,0))∧RepL κ' rI mA l' cs'∧
   cS κ' (fun _=>1) (fun _=>sl) (kM 0 1 R) v∧(∀b o u,κ b o=some u→κ' b o=some u)∧(∀b o u,b<w.heap.size→κ' b o=some u→κ b o=some u)∧
   (∀b o u,κ' b o=some u→w'.cell? ⟨b,o,none⟩=some u)∧iL w.heap.size κ' (fun _=>1) (fun _=>sl) w' 0 (.arr E z n el)∧(∀b,cx (.arr E z n el) sl=some b→∀o,κ' b o=none)∧Frame (some b) w w'
section
variable {X:Ctx} {Q:Exit→St→Prop} {S:St} {ops:Array Oper} {o:Oper} {rest:List Oper}
theorem Gz(p:Nat){f:FuncId}{x0:Operand}{xs:List Operand}{ts:Array TypeId}{l l' A:List D}{R:D}{E z n:Nat}{el:Nat→List D}{s g:Nat}(hps:p≠s)(hg:o.guard=none)(ho:o.op= .call {callee:= .value (.func f),args:=(x0::xs).toArray,argTypes:=ts})(hx:S.ev X x0= .bx s g 0)(hγ:S.γ s=g)(hσ:S.σ s= .box l)
 (hc:v5 X.Z f l l' A R E z n el)(hA:xs.map (S.ev X)=A){t:Nat}(hd:o.dst=some t){R' :D}(hR:kM p (S.γ p+1) R=R')
 (hk:WL X ops rest Q ⟨bN S.ρ t R',bN S.γ p (S.γ p+1),bN (bN S.σ s (.box l')) p (.arr E z n el)⟩):WL X ops (o::rest) Q S:=fun κ sv a w hs=>by
 subst hR
 obtain⟨b,T,cs,he,hsv,hh,hrep,hac⟩:=gZ hs hx hγ hσ
 have hblk:cx (S.σ s) (sv s)=some b:=by rw[hσ,hsv];rfl
 have hr:=dZ hs xs
 rw[hA]at hr
 have hrun:=fr (P:=X.Z.P) (a:=a) (w:=w) hc.body ho
 simp only[List.map_cons,he]at hrun
 have hcall:=hc.calls w κ (xs.map a.eval) b T cs (dh.fits hs.wld) (fun o=>hs.wld.sep s b o hblk) hh (hrep.pure (fun _ _ _ h=>h) hc.purel) (dh.fS hs.wld) (hr.pure (fun _ _ _ h=>h) hc.pureA)
 refine wpListIn_plain hg fun K hK=>eU hrun hcall ?_
 rintro e w' ⟨v,sl,κ',cs',T',rfl,hh',hl',hv,k1,k2,k3,hown,hsep,hfr⟩
 have hgr:w.grownBy w' (some b):=⟨hfr.os,hfr.tape,hfr.output,hfr.size,fun k hk hne=>hfr.block k hk hne⟩
 have hle:Le κ κ' S.γ (bN S.γ p (S.γ p+1)) sv (bN sv p sl):=by
  obtain⟨a,b,c⟩:=dO κ S.γ sv p sl
  exact⟨k1,b,c⟩
 have hnew:∀b',cx (.arr E z n el) sl=some b'→w.heap.size≤b'∧b' <w'.heap.size∧∀o,κ' b' o=none:=fun b' hbk=>by
  obtain⟨xs,e1,_⟩:=hown
  rcases e1.2 with⟨hv,_⟩|⟨b'',off,cap,cur,hv,hbase,hh,_⟩
  ·simp only at hv;rw[hv]at hbk;cases hbk
  ·simp only at hv
   rw[hv]at hbk;simp only[cx,Option.some.injEq]at hbk;subst hbk
   exact⟨hbase,(Array.getElem?_eq_some_iff.1 hh).1,hsep b'' (by rw[hv];rfl)⟩
 have hbt:∀t,t≠s→∀b',cx (S.σ t) (sv t)=some b'→w'.heap[b']? =w.heap[b']? :=fun t ht b' hb' =>
  hgr.block b' (cy (hs.wld.own t) hb') (fun e=>ht (hs.wld.inj t s b' hb' (by rw[hblk];exact e.symm)))
 have hbk:∀t b',cx (bN (bN S.σ s (.box l')) p (.arr E z n el) t) (bN sv p sl t)=some b'→(t=p∧cx (.arr E z n el) sl=some b')∨(t≠p∧cx (S.σ t) (sv t)=some b'):=by
  intro t b' hb'
  by_cases e:t=p
  ·subst e;rw[aj,aj]at hb';exact .inl ⟨rfl,hb'⟩
  ·rw[bg _ _ _ _ e,bg _ _ _ _ e]at hb'
   refine .inr ⟨e, ?_⟩
   by_cases e2:t=s
   ·subst e2;rw[aj,hsv]at hb';rw[hblk];exact hb'
   ·rw[bg _ _ _ _ e2]at hb';exact hb'
 have hκb:∀o,κ' b o=none:=fun o=>by
  cases hk:κ' b o with
  |none=>rfl
  |some u=>
   have h2:=k2 b o u (cy (hs.wld.own s) hblk) hk
   rw[hs.wld.sep s b o hblk]at h2;cases h2
 have hW:cV X κ' (bN sv p sl) ⟨S.ρ,bN S.γ p (S.γ p+1),bN (bN S.σ s (.box l')) p (.arr E z n el)⟩ w' :=by
  have h0:=hs.wld
  obtain⟨h1,h2,h3,h4,h5,_,h7,h8,h9,h10,h11,h12,h13,h14⟩:=hs.wld
  refine⟨k3,fun t=> ?_,fun t u b' ht hu=> ?_,fun t b' o ht=> ?_,fun t b' ht=> ?_,kf h0 hgr (fun b' e=>⟨s,by rw[hblk];exact e⟩) (fun t b' ht=> ?_),fun g l hgl=> ?_,fun b' o v hlt hk=>k2 b' o v (Nat.lt_of_lt_of_le hlt h10) hk|>h8 b' o v hlt,fun b' hb' => ?_,Nat.le_trans h10 hgr.size,h11.trans hle,fun b' o v hk hT=> ?_,fun t b' ht hT=> ?_,fun b' h=>Nat.lt_of_lt_of_le (h14 b' h) hgr.size⟩
  ·by_cases e:t=p
   ·subst e
    simp only[aj]
    obtain⟨xs,e1,e2,e3,e4⟩:=hown
    exact⟨xs,by rw[aj];exact jf e1 (Nat.le_trans (X.EO _) h10),e2,e3,fun i hi=>(e4 i hi).pure (fun _ _ _ h=>h) (hc.pureE i hi)⟩
   ·simp only[bg _ _ _ _ e]
    by_cases e2:t=s
    ·subst e2;simp only[aj]
     exact⟨b,T',cs',by rw[bg _ _ _ _ e];exact hsv,hh',hl'.pure (fun _ _ _ h=>h) hc.purel',hc.cell'⟩
    ·simp only[bg _ _ _ _ e2]
     exact dv hle (bg _ _ _ _ e) (hbt t e2) (h2 t)
  ·simp only at ht hu
   rcases hbk t b' ht with⟨rfl,a1⟩|⟨e1,a1⟩<;>rcases hbk u b' hu with⟨rfl,a2⟩|⟨e2,a2⟩
   ·rfl
   ·have:=cy (h2 u) a2;have:=(hnew b' a1).1;omega
   ·have:=cy (h2 t) a1;have:=(hnew b' a2).1;omega
   ·exact h3 t u b' a1 a2
  ·simp only at ht
   rcases hbk t b' ht with⟨rfl,a1⟩|⟨e1,a1⟩
   ·exact(hnew b' a1).2.2 o
   ·cases hk:κ' b' o with
    |none=>rfl
    |some v=>have h20:=k2 b' o v (cy (h2 t) a1) hk;rw[h4 t b' o a1]at h20;cases h20
  ·simp only at ht
   rcases hbk t b' ht with⟨rfl,a1⟩|⟨e1,a1⟩
   ·exact .inl (Nat.le_trans h10 (hnew b' a1).1)
   ·exact h5 t b' a1
  ·rcases hbk t b' ht with⟨rfl,a1⟩|⟨e1,a1⟩
   ·exact .inl (hnew b' a1).1
   ·exact .inr ⟨t,a1⟩
  ·obtain⟨hc2,u,hu,hk⟩:=h7 g l hgl
   exact⟨hc2,u,hu.mono hle,fun j v hj=>k1 _ _ _ (hk j v hj)⟩
  ·obtain⟨e1,e2⟩:=h9 b' hb'
   by_cases e:0=p
   ·subst e;simp only[aj];exact⟨by omega,fun e=>by omega⟩
   ·simp only[bg _ _ _ _ e];exact⟨e1,e2⟩
  ·by_cases e:b' <w.heap.size
   ·exact h12 b' o v (k2 b' o v e hk) hT
   ·have:=h14 b' hT;omega
  ·simp only at ht
   rcases hbk t b' ht with⟨rfl,a1⟩|⟨e1,a1⟩
   ·have:=h14 b' hT;have:=(hnew b' a1).1;omega
   ·exact h13 t b' a1 hT
 have hs' :dh X κ' (bN sv p sl) ⟨S.ρ,bN S.γ p (S.γ p+1),bN (bN S.σ s (.box l')) p (.arr E z n el)⟩ a w' :=⟨hs.size,iJ hs s (by rw[hblk];exact hgr),fun i hi=>(hs.slot i hi).mono hle,hW⟩
 refine⟨v,rfl, ?_⟩
 rw[hd]
 exact hK _ _ (hk κ' _ _ w' (hs'.put (some t) (rC (p:=0) (g:=1) (fun _ _ _ h=>h) rfl (aj _ _ _) (aj _ _ _) hc.poR hv)))
end
end Go.Ab
namespace Go.Ab
open Go Go.RowKit
set_option linter.all false
section
variable {X:Ctx} {o:Oper} {S:St} {x:Operand}
theorem Pn{T E:TypeId}{r q:TRow}{s g z n i j:Nat}{f:Nat→List D}{lo hi:Option Operand}(ho:o.op= .slice T x lo hi none)(hx:S.ev X x= .os s g)(hg:S.γ s=g)(hσ:S.σ s= .arr E z n f)
 (hlo:xV X S lo i 0)(hhi:xV X S hi j n)(hij:i≤j)(hjn:j≤n)
 (hr:nth X.Z.dS T=some r)(hk:Nat.beq r.k 3=true)(hq:nth X.Z.dS r.el=some q)(hq9:Nat.beq q.k 9=false)(hz:q.sz=z):
 eh X o S (.ow s g z i (j-i)):=fun κ sv a w hs=>by
 subst hz
 have hokr:=X.Z.tabOk _ _ hr (by intro e;rw[e]at hk;cases hk)
 have hokq:=X.Z.tabOk _ _ hq (by intro e;rw[e]at hq9;cases hq9)
 have hu:=cW hokr hk
 have hown0:=hs.wld.own s
 rw[hσ]at hown0
 obtain⟨xs,hown,_⟩:=hown0
 have hxv:=hs.ev x
 rw[hx]at hxv
 have hxe:a.eval x=sv s:=by
  generalize a.eval x=v at hxv
  cases hxv with
  |os _ _ _ _ hh _=>exact hh hg.symm
 have fin:∀(ad:Option Addr) (cap:Nat),sv s= .slice ad n cap→n≤cap→(Value.slice (if cap=i then ad else ad.map (·.add (i*q.sz))) (j-i) (cap-i)).oneCell' =true→
  ∃v,cS κ S.γ sv (.ow s g q.sz i (j-i)) v∧∀w',Below w.heap.size w w'→(execOp a.eval o).run X.Z.P w' = .ok (.value v) w' :=fun ad cap he hnc h1c=>by
  refine⟨_, .ow s g q.sz i (j-i) _ (by omega) (fun _=>⟨ad,n,cap,he,rfl⟩) h1c,fun w' _=> ?_⟩
  have:=oF (P:=X.Z.P) (w:=w') (a:=ad) (len:=n) (cap:=cap) hu hokq (hlo.v hs) (hhi.v hs) hij (by omega)
  simp only[execOp,ho,hxe,he,Option.map_none]
  simp[this]
 rcases hown.2 with⟨hv,hn⟩|⟨b,off,cap,cur,hv,_,_,hnc,_⟩
 ·refine fin none 0 (by rw[hv,hn]) (by omega) ?_
  split<;>rfl
 ·refine fin _ cap hv hnc ?_
  split<;>rfl
theorem MF{T E:TypeId}{r q:TRow}{x y:Operand}{s g z n k c m t n' :Nat}{f f' :Nat→List D}{ts:Array TypeId}(ho:o.op= .call {callee:= .builtin .append,args:= #[x,y],argTypes:=ts})(hts:ts= #[T,T])(hd:o.dst=some t)
 (hx:S.ev X x= .ow s g z 0 k)(hy:S.ev X y= .ow s g z c m)(hg:S.γ s=g)(hσ:S.σ s= .arr E z n f)(hkn:k≤n)(hcn:c+m≤n)(hkm:k+m≤n)
 (hr:nth X.Z.dS T=some r)(hk:Nat.beq r.k 3=true)(hE:r.el=E)(hq:nth X.Z.dS E=some q)(hq9:Nat.beq q.k 9=false)(hz:q.sz=z)(hzs:Nat.beq q.zs.length z=true)(hz0:Nat.beq z 0=false)
 (hb:(k+m)*q.bytes≤140737488355328)(hm:k+m≤140737488355328)(hn' :n' =k+m)(h1:∀i,i<k→f' i=f i)(h2:∀i,i<m→f' (k+i)=f (c+i)):
 kL X o S (S.owned t s (.arr E z n' f')):=fun κ sv a w hs=>by
 subst hts hn'
 have hokr:=X.Z.tabOk _ _ hr (by intro e;rw[e]at hk;cases hk)
 have hokq:=X.Z.tabOk _ _ hq (by intro e;rw[e]at hq9;cases hq9)
 obtain⟨iq,dq,hiq,hdq,hsq,hbq,⟨zv,hzv,hzf⟩,_⟩:=cU hokq
 have hu:=cW hokr hk
 rw[hE]at hu
 have hown0:=hs.wld.own s
 rw[hσ]at hown0
 obtain⟨xs,hown,hfl,hfc,hfr⟩:=hown0
 have hxv:=hs.ev x
 have hyv:=hs.ev y
 rw[hx]at hxv
 rw[hy]at hyv
 have hzl:zv.cells.size=z:=by have:=tw hzf;have h2:=Nat.eq_of_beq_eq_true hzs;simp at this;omega
 have hz1:0<z:=by
  cases z with
  |zero=>cases hz0
  |succ z=>omega
 have hle:∀pv,Le κ κ S.γ (bN S.γ s (S.γ s+1)) sv (bN sv s pv):=dO κ S.γ sv s
 have hxl:xs.length=n*z:=hown.1
 rw[hd]
 have hxe:∃ad N cap,sv s= .slice ad N cap∧a.eval x= .slice (if cap=0 then ad else ad.map (·.add (0*z))) k (cap-0):=by
  generalize a.eval x=v at hxv
  cases hxv with
  |ow _ _ _ _ _ _ _ hh _=>exact hh hg.symm
 have hye:∃ad N cap,sv s= .slice ad N cap∧a.eval y= .slice (if cap=c then ad else ad.map (·.add (c*z))) m (cap-c):=by
  generalize a.eval y=v at hyv
  cases hyv with
  |ow _ _ _ _ _ _ _ hh _=>exact hh hg.symm
 obtain⟨ad,N,cap,hv,hxe⟩:=hxe
 obtain⟨ad2,N2,cap2,hv2,hye⟩:=hye
 rw[hv]at hv2
 simp only[Value.slice.injEq]at hv2
 obtain⟨rfl,rfl,rfl⟩:=hv2
 rcases hown.2 with⟨hv0,hn0⟩|⟨b,off,cap',cur,hv',hbase,hh,hnc,hcm,hcs,htake⟩
 ·rw[hv0]at hv
  simp only[Value.slice.injEq]at hv
  obtain⟨rfl,rfl,rfl⟩:=hv
  have hk0:k=0:=by omega
  have hm0:m=0:=by omega
  have hc0:c=0:=by omega
  subst hk0 hm0 hc0
  have hxe' :a.eval x= .slice none 0 0:=by rw[hxe];rfl
  have hye' :a.eval y= .slice none 0 0:=by rw[hye];rfl
  have hrun:=gJ (P:=X.Z.P) (w:=w) (X.base s) T o.type E iq z hu hiq (.slice none 0 0) 0 [] ⟨by simp, .inl ⟨rfl,rfl⟩⟩
  refine⟨.slice none 0 0,w,κ,_, .inl ?_,dY hs t s (pv:= .slice none 0 0) rfl (bL (Below.refl _ _) _) (fun b hb=>by cases hb) ?_⟩
  ·simp[execOp,ho,resolve,invoke,builtin,hxe',hye',hrun]
  ·exact⟨[],by rw[aj];exact⟨by simp, .inl ⟨rfl,rfl⟩⟩,fun i hi=>by omega,fun i hi=>by omega,fun i hi=>by omega⟩
 ·rw[hv']at hv
  simp only[Value.slice.injEq]at hv
  obtain⟨rfl,rfl,rfl⟩:=hv
  have hkz:k*z≤n*z:=Nat.mul_le_mul_right _ hkn
  have hcz:c*z+m*z≤n*z:=by rw[←Nat.add_mul];exact Nat.mul_le_mul_right _ hcn
  have hxe' :a.eval x= .slice (some ⟨b,off,none⟩) k cap' :=by
   rw[hxe]
   by_cases h0:cap' =0
   ·rw[if_pos h0];simp
   ·rw[if_neg h0];simp[dM]
  have hownk:eJ w (X.base s) E z (.slice (some ⟨b,off,none⟩) k cap') k (xs.take (k*z)):=by
   refine⟨by simp;omega, .inr ⟨b,off,cap',cur,rfl,hbase,hh,by omega,hcm,hcs, ?_⟩⟩
   rw[←htake,List.take_take,Nat.min_eq_left hkz]
  have hcells:∀j u,xs[j]? =some u→w.cell? ⟨b,off+j,none⟩=some u:=fun j u hj=>by
   have:=(show eJ w (X.base s) E z (.slice (some ⟨b,off,none⟩) n cap') n xs from⟨hown.1, .inr ⟨b,off,cap',cur,rfl,hbase,hh,hnc,hcm,hcs,htake⟩⟩).cells j u hj
   rwa[dM]at this
  obtain⟨news,hnews⟩:∃l,(xs.drop (c*z)).take (m*z)=l:=⟨_,rfl⟩
  have hnl:news.length=m*z:=by rw[←hnews];simp;omega
  have hng:∀j u,news[j]? =some u→xs[c*z+j]? =some u:=fun j u hj=>by
   have hjl:=(List.getElem?_eq_some_iff.1 hj).1
   rw[←hnews,List.getElem?_take,if_pos (by omega),List.getElem?_drop]at hj
   exact hj
  have hone:∀(j:Nat) (u:Value),xs[j]? =some u→u.oneCell' =true:=fun j u hj=>by
   have hjl:=(List.getElem?_eq_some_iff.1 hj).1
   have hkk:j%z<z:=Nat.mod_lt _ hz1
   have hi:j/z<n:=(Nat.div_lt_iff_lt_mul hz1).2 (by omega)
   have e:j=j/z*z+j%z:=by rw[Nat.mul_comm];exact(Nat.div_add_mod j z).symm
   refine RepL.kq (hfr _ hi) (hfc _ hi) u ?_
   refine List.mem_of_getElem? (i:=j%z) ?_
   rw[List.getElem?_take,if_pos hkk,List.getElem?_drop,←e];exact hj
  have hchunk:∀i,i<m→(news.drop (i*z)).take z=(xs.drop ((c+i)*z)).take z:=fun i hi=>by
   have h1:i*z+z≤m*z:=by have:=Nat.mul_le_mul_right z (show i+1≤m by omega);rw[Nat.add_mul]at this;omega
   rw[←hnews,List.drop_take,List.take_take,Nat.min_eq_left (by omega),List.drop_drop,Nat.add_mul]
  obtain⟨ya,yc,hye',hycell⟩:∃ya yc,a.eval y= .slice (some ya) m yc∧∀j u,news[j]? =some u→w.cell? (ya.add j)=some u:=by
   by_cases h0:cap' =c
   ·have hm0:m=0:=by omega
    refine⟨⟨b,off,none⟩,cap' -c,by rw[hye,if_pos h0],fun j u hj=> ?_⟩
    have:=(List.getElem?_eq_some_iff.1 hj).1
    rw[hnl,hm0]at this;omega
   ·refine⟨⟨b,off+c*z,none⟩,cap' -c,by rw[hye,if_neg h0];simp[dM],fun j u hj=> ?_⟩
    rw[dM,Nat.add_assoc]
    exact hcells _ _ (hng j u hj)
  obtain⟨v',w',hrun,hown',hgr,hwh⟩:=eL (P:=X.Z.P) (w:=w) (X.base s) T o.type E iq zv z q.bytes hu hiq hzv (by rw[hsq,hz]) (by rw[hbq]) hzl hz1 (.slice (some ⟨b,off,none⟩) k cap') k (xs.take (k*z)) hownk ya m yc news hnl
   hycell (fun v hv=>by
    obtain⟨j,hj⟩:=List.getElem?_of_mem hv
    exact hone _ _ (hng j v hj)) (by unfold maxLen;omega) hb (hs.wld.lY _)
  have hob:(Value.slice (some (⟨b,off,none⟩:Addr)) k cap').ownBlock=cx (S.σ s) (sv s):=by rw[hσ,hv'];rfl
  rw[hob]at hgr
  have hxk:(xs.take (k*z)).length=k*z:=by simp;omega
  refine⟨v',w',κ,_, .inl ?_,dY hs t s (pv:=v') ?_ hgr (fun b' hb' => ?_) ?_⟩
  ·simp[execOp,ho,resolve,invoke,builtin,hxe',hye',hrun]
  ·rcases hown'.2 with⟨e,_⟩|⟨_,_,_,_,e,_⟩<;>rw[e]<;>rfl
  ·rw[←hob]
   refine hwh b' ?_
   rcases hown'.2 with⟨e,_⟩|⟨_,_,_,_,e,_⟩<;>(rw[e]at hb'⊢;exact hb')
  ·refine⟨_,by rw[aj];exact hown',fun i hi=> ?_,fun i hi=> ?_,fun i hi=> ?_⟩
   ·by_cases hin:i<k
    ·rw[h1 i hin];exact hfl i (by omega)
    ·obtain⟨p,rfl⟩:∃p,i=k+p:=⟨i-k,by omega⟩
     rw[h2 p (by omega)];exact hfl _ (by omega)
   ·by_cases hin:i<k
    ·rw[h1 i hin];exact hfc i (by omega)
    ·obtain⟨p,rfl⟩:∃p,i=k+p:=⟨i-k,by omega⟩
     rw[h2 p (by omega)];exact hfc _ (by omega)
   ·by_cases hin:i<k
    ·rw[h1 i hin,jk hxk hin]
     have hiz:i*z+z≤k*z:=by have:=Nat.mul_le_mul_right z (show i+1≤k by omega);rw[Nat.add_mul]at this;omega
     rw[List.drop_take,List.take_take,Nat.min_eq_left (by omega)]
     exact(hfr i (by omega)).mono (hle _)
    ·obtain⟨p,rfl⟩:∃p,i=k+p:=⟨i-k,by omega⟩
     rw[h2 p (by omega),jh hxk,hchunk p (by omega)]
     exact(hfr _ (by omega)).mono (hle _)
end
end Go.Ab
namespace Go.Ab
open Go Go.RowKit
set_option linter.all false
section
variable {X:Ctx} {S:St} {o:Oper} {T:TypeId} {r q:TRow}
theorem F3{x y:Operand}{s g s2 g2 z n m t n' :Nat}{E E2:TypeId}{f h f' :Nat→List D}{ts:Array TypeId}(ho:o.op= .call {callee:= .builtin .append,args:= #[x,y],argTypes:=ts})(hts:ts= #[T,T])(hd:o.dst=some t)
 (hx:(S.ev X x= .os s g∧S.γ s=g∧S.σ s= .arr E z n f)∨(S.ev X x= .nil∧n=0∧s=t))(hy:S.ev X y= .os s2 g2)(hg2:S.γ s2=g2)(hσ2:S.σ s2= .arr E2 z m h)
 (hr:nth X.Z.dS T=some r)(hk:Nat.beq r.k 3=true)(hE:r.el=E)(hq:nth X.Z.dS E=some q)(hq9:Nat.beq q.k 9=false)(hz:q.sz=z)(hzs:Nat.beq q.zs.length z=true)(hz0:Nat.beq z 0=false)
 (hb:(n+m)*q.bytes≤140737488355328)(hm:n+m≤140737488355328)(hn' :n' =n+m)(h1:∀i,i<n→f' i=f i)(h2:∀i,i<m→f' (n+i)=h i):
 kL X o S (S.owned t s (.arr E z n' f')):=fun κ sv a w hs=>by
 subst hts hn'
 have hokr:=X.Z.tabOk _ _ hr (by intro e;rw[e]at hk;cases hk)
 have hokq:=X.Z.tabOk _ _ hq (by intro e;rw[e]at hq9;cases hq9)
 obtain⟨iq,dq,hiq,hdq,hsq,hbq,⟨zv,hzv,hzf⟩,_⟩:=cU hokq
 have hu:=cW hokr hk
 rw[hE]at hu
 --the first one
 obtain⟨xv,xs,hxe,hown,hfl,hfc,hfr,hbx⟩:∃xv xs,a.eval x=xv∧eJ w (X.base s) E z xv n xs∧(∀i,i<n→(f i).length=z)∧(∀i,i<n→aV (f i)=true)∧(∀i,i<n→RepL κ S.γ sv (f i) ((xs.drop (i*z)).take z))∧(xv= .slice none 0 0∨cx (S.σ s) (sv s)=xv.ownBlock):=by
  rcases hx with⟨hx,hg,hσ⟩|⟨hx,rfl,_⟩
  ·have hown0:=hs.wld.own s
   rw[hσ]at hown0
   obtain⟨xs,hown,hfl,hfc,hfr⟩:=hown0
   have hxv:=hs.ev x
   rw[hx]at hxv
   refine⟨sv s,xs, ?_,hown,hfl,hfc,hfr, .inr ?_⟩
   ·generalize a.eval x=v at hxv
    cases hxv with
    |os _ _ _ _ hh _=>exact hh hg.symm
   ·rw[hσ]
    rcases hown.2 with⟨e,_⟩|⟨_,_,_,_,e,_⟩<;>rw[e]<;>rfl
  ·have hxv:=hs.ev x
   rw[hx]at hxv
   refine⟨.slice none 0 0,[], ?_,gR _ _ _ _,fun i hi=>by omega,fun i hi=>by omega,fun i hi=>by omega, .inl rfl⟩
   generalize a.eval x=v at hxv
   cases hxv;rfl
 --the second one
 have hown2:=hs.wld.own s2
 rw[hσ2]at hown2
 obtain⟨ys,hownY,hyl,hyc,hyr⟩:=hown2
 have hyv:=hs.ev y
 rw[hy]at hyv
 have hye:a.eval y=sv s2:=by
  generalize a.eval y=v at hyv
  cases hyv with
  |os _ _ _ _ hh _=>exact hh hg2.symm
 have hzl:zv.cells.size=z:=by have:=tw hzf;have h2:=Nat.eq_of_beq_eq_true hzs;simp at this;omega
 have hz1:0<z:=by
  cases z with
  |zero=>cases hz0
  |succ z=>omega
 have hle:∀pv,Le κ κ S.γ (bN S.γ s (S.γ s+1)) sv (bN sv s pv):=dO κ S.γ sv s
 have hxl:xs.length=n*z:=hown.1
 have hys:ys.length=m*z:=hownY.1
 have hrow:∀b,xv.ownBlock=some b→cx (S.σ s) (sv s)=some b:=fun b hb=>by
  rcases hbx with e|e
  ·rw[e]at hb;cases hb
  ·rw[e];exact hb
 have hgrow:∀{w' :World},w.grownBy w' xv.ownBlock→w.grownBy w' (cx (S.σ s) (sv s)):=fun{w'} hgr=>by
  rcases hbx with e|e
  ·rw[e]at hgr
   exact⟨hgr.os,hgr.tape,hgr.output,hgr.size,fun k hk _=>hgr.block k hk (by simp[Value.ownBlock])⟩
  ·rw[e];exact hgr
 rw[hd]
 have fin:∀(v' :Value) (w' :World),(Builtin.append_ #[T,T] o.type #[xv,sv s2]).run X.Z.P w= .ok v' w'→eJ w' (X.base s) E z v' (n+m) (xs++ys)→w.grownBy w' xv.ownBlock→(∀b',v'.ownBlock=some b'→w.heap.size≤b'∨xv.ownBlock=some b')→
  ∃v w' κ' sv',((execOp a.eval o).run X.Z.P w= .ok (.value v) w'∨((execOp a.eval o).run X.Z.P w= .ok .skip w'∧v=Go.undef))∧dh X κ' sv' (S.owned t s (.arr E z (n+m) f')) (a.put (some t) v) w' :=fun v' w' hrun hown' hgr hwh=>by
  refine⟨v',w',κ,_, .inl ?_,dY hs t s (pv:=v') ?_ (hgrow hgr) (fun b' hb' => ?_) ?_⟩
  ·simp[execOp,ho,resolve,invoke,builtin,hxe,hye,hrun]
  ·rcases hown'.2 with⟨e,_⟩|⟨_,_,_,_,e,_⟩<;>rw[e]<;>rfl
  ·have hb2:v'.ownBlock=some b' :=by
    rcases hown'.2 with⟨e,_⟩|⟨_,_,_,_,e,_⟩<;>(rw[e]at hb'⊢;exact hb')
   rcases hwh b' hb2 with h|h
   ·exact .inl h
   ·exact .inr (hrow b' h)
  ·refine⟨_,by rw[aj];exact hown',fun i hi=> ?_,fun i hi=> ?_,fun i hi=> ?_⟩
   ·by_cases hin:i<n
    ·rw[h1 i hin];exact hfl i hin
    ·obtain⟨k,rfl⟩:∃k,i=n+k:=⟨i-n,by omega⟩
     rw[h2 k (by omega)];exact hyl k (by omega)
   ·by_cases hin:i<n
    ·rw[h1 i hin];exact hfc i hin
    ·obtain⟨k,rfl⟩:∃k,i=n+k:=⟨i-n,by omega⟩
     rw[h2 k (by omega)];exact hyc k (by omega)
   ·by_cases hin:i<n
    ·rw[h1 i hin,jk hxl hin];exact(hfr i hin).mono (hle _)
    ·obtain⟨k,rfl⟩:∃k,i=n+k:=⟨i-n,by omega⟩
     rw[h2 k (by omega),jh hxl]
     exact(hyr k (by omega)).mono (hle _)
 rcases hownY.2 with⟨ev,rfl⟩|⟨g3,off,cap,cur,ev,q1,q2,q3,q4,q5,q6⟩
 ·have hy0:ys=[]:=List.eq_nil_of_length_eq_zero (by simpa using hys)
  subst hy0
  have hrun:=gJ (P:=X.Z.P) (w:=w) (X.base s) T o.type E iq z hu hiq xv n xs hown
  rw[←ev]at hrun
  exact fin xv w hrun (by simpa using hown) (bL (Below.refl _ _) _) (fun b hb=> .inr hb)
 ·rw[ev]at hownY
  obtain⟨v',w',hrun,hown',hgr,hwh⟩:=eL (P:=X.Z.P) (w:=w) (X.base s) T o.type E iq zv z q.bytes hu hiq hzv (by rw[hsq,hz]) (by rw[hbq]) hzl hz1 xv n xs hown ⟨g3,off,none⟩ m cap ys hys
   (fun j v hj=>hownY.cells j v hj)
   (fun v hv=>by
     obtain⟨j,hj⟩:=List.getElem?_of_mem hv
     have hjl:=(List.getElem?_eq_some_iff.1 hj).1
     rw[hys]at hjl
     have hk:j%z<z:=Nat.mod_lt _ hz1
     have hi:j/z<m:=(Nat.div_lt_iff_lt_mul hz1).2 hjl
     have e:j=j/z*z+j%z:=by rw[Nat.mul_comm];exact(Nat.div_add_mod j z).symm
     refine RepL.kq (hyr _ hi) (hyc _ hi) v ?_
     refine List.mem_of_getElem? (i:=j%z) ?_
     rw[List.getElem?_take,if_pos hk,List.getElem?_drop,←e]
     exact hj)
   (by unfold maxLen;omega) hb (hs.wld.lY _)
  rw[←ev]at hrun
  exact fin v' w' hrun hown' hgr hwh
theorem x3{P:Program}{w:World}{ty E e:TypeId}{q:TRow}{kz:IntKind}(hu:P.underlying T=some (.slice E))(hq:jz P E q=true)(hz:q.zs=[.i kz]){g off m c:Nat}{cur:Array Value}
 (hg:w.heap[g]? =some (.cells cur e (0,0)))(hm:0<m)(hfit:off+m≤cur.size):
 (Builtin.clear_ #[T] ty #[.slice (some ⟨g,off,none⟩) m c]).run P w= .ok (.tuple #[]) (w.setRow g (cur.toList.take off++List.replicate m (Value.int kz 0)++cur.toList.drop (off+m)).toArray):=by
 obtain⟨iq,dq,hiq,hdq,hsq,hbq,⟨zv,hzv,hzf⟩,_⟩:=cU hq
 rw[hz]at hzf
 have hcells:zv.cells= #[.int kz 0]:=by
  cases hc:zv.cells.toList with
  |nil=>rw[hc]at hzf;cases hzf
  |cons u us=>
   rw[hc]at hzf
   cases us with
   |cons u2 us=>simp[Zr.qX]at hzf
   |nil=>
    have h1:Zr.fits (.i kz) u=true:=by simpa[Zr.qX]using hzf
    cases u<;>simp only[Zr.fits]at h1<;>try (cases h1;done)
    rename_i k' n
    simp only[Bool.and_eq_true,beq_iff_eq]at h1
    obtain⟨rfl,rfl⟩:=h1
    have:zv.cells=zv.cells.toList.toArray:=by simp
    rw[this,hc]
 have hzc:(Builtin.zeroCells zv.cells m).toList=List.replicate m (Value.int kz 0):=by
  rw[hcells]
  simp[Builtin.zeroCells]
  apply List.ext_getElem
  ·simp
  ·intro i h1 h2
   simp[Nat.mod_one]
 have hst:=run_storeCells_at P g off e (List.replicate m (Value.int kz 0)) 0 cur w hg (by simpa using hfit) (by intro v hv;rw[List.eq_of_mem_replicate hv];rfl)
 simp only[Nat.add_zero,List.length_replicate]at hst
 cases m with
 |zero=>omega
 |succ m=>simp[Builtin.clear_,run_underlying hu,zeroValue,typeInfo,hiq,hzv,hzc,hst]
theorem KV{x:Operand}{s g a0 m n:Nat}{E:TypeId}{kz:IntKind}{f f' :Nat→List D}{ts:Array TypeId}(ho:o.op= .call {callee:= .builtin .clear,args:= #[x],argTypes:=ts})(hts:ts= #[T])(hd:o.dst=none)
 (hx:S.ev X x= .ow s g 1 a0 m)(hg:S.γ s=g)(hσ:S.σ s= .arr E 1 n f)(ham:a0+m≤n)
 (hr:nth X.Z.dS T=some r)(hk:Nat.beq r.k 3=true)(hE:r.el=E)(hq:nth X.Z.dS E=some q)(hq9:Nat.beq q.k 9=false)(hzs:q.zs=[.i kz])
 (h1:∀i,i<n→a0≤i∧i<a0+m→f' i=[.int kz 0])(h2:∀i,i<n→¬(a0≤i∧i<a0+m)→f' i=f i):
 kL X o S ⟨S.ρ,S.γ,bN S.σ s (.arr E 1 n f')⟩:=fun κ sv a w hs=>by
 subst hts hE
 have hokr:=X.Z.tabOk _ _ hr (by intro e;rw[e]at hk;cases hk)
 have hokq:=X.Z.tabOk _ _ hq (by intro e;rw[e]at hq9;cases hq9)
 have hu:=cW hokr hk
 have hown0:=hs.wld.own s
 rw[hσ]at hown0
 obtain⟨xs,hown,hfl,hfc,hfr⟩:=hown0
 have hxv:=hs.ev x
 rw[hx]at hxv
 have hfin:∀(w' :World) (xs' :List Value),(Builtin.clear_ #[T] o.type #[a.eval x]).run X.Z.P w= .ok (.tuple #[]) w'→w.grownBy w' (cx (S.σ s) (sv s))→eJ w' (X.base s) r.el 1 (sv s) n xs'→
  (∀i,i<n→RepL κ S.γ sv (f' i) ((xs'.drop (i*1)).take 1))→
  ∃v w' κ' sv',((execOp a.eval o).run X.Z.P w= .ok (.value v) w'∨((execOp a.eval o).run X.Z.P w= .ok .skip w'∧v=Go.undef))∧dh X κ' sv' ⟨S.ρ,S.γ,bN S.σ s (.arr r.el 1 n f')⟩ (a.put o.dst v) w' :=fun w' xs' hrun hgr ho' e4=>by
  have hlc:∀i,i<n→(f' i).length=1∧aV (f' i)=true:=fun i hi=>by
   by_cases h:a0≤i∧i<a0+m
   ·rw[h1 i hi h];exact⟨rfl,rfl⟩
   ·rw[h2 i hi h];exact⟨hfl i hi,hfc i hi⟩
  have hW:=hs.wld.rewrite s (.arr r.el 1 n f') hgr (by rw[hσ];exact z5 _) ⟨xs',ho',fun i hi=>(hlc i hi).1,fun i hi=>(hlc i hi).2,e4⟩ S.ρ
  have hS:dh X κ sv ⟨S.ρ,S.γ,bN S.σ s (.arr r.el 1 n f')⟩ a w' :=⟨hs.size,iJ hs s hgr,hs.slot,hW⟩
  rw[hd]
  refine⟨.tuple #[],w',κ,sv, .inl ?_,hS⟩
  simp[execOp,ho,resolve,invoke,builtin,hrun]
 have hzero:m=0→∀i,i<n→f' i=f i:=fun h0 i hi=>h2 i hi (by omega)
 obtain⟨ad,N,cap,hsv,hv⟩:∃ad N cap,sv s= .slice ad N cap∧a.eval x= .slice (if cap=a0 then ad else ad.map (·.add (a0*1))) m (cap-a0):=by
  generalize a.eval x=v at hxv
  cases hxv with
  |ow _ _ _ _ _ _ _ hh _=>exact hh hg.symm
 by_cases hm0:m=0
 ·refine hfin w xs ?_ (bL (Below.refl _ _) _) hown (fun i hi=>by rw[hzero hm0 i hi];exact hfr i hi)
  rw[hv,hm0]
  cases(if cap=a0 then ad else ad.map (·.add (a0*1)))<;>simp[Builtin.clear_,run_underlying hu]
 rcases hown.2 with⟨hv0,hn0⟩|⟨g',off,cap',cur,hv0,hbase,hheap,hnc,hcm,hsz,htake⟩
 ·omega
 rw[hv0]at hsv
 simp only[Value.slice.injEq]at hsv
 obtain⟨rfl,rfl,rfl⟩:=hsv
 rw[if_neg (by omega)]at hv
 simp only[Option.map_some,Nat.mul_one,dM]at hv
 have hrun:=x3 (w:=w) (T:=T) (ty:=o.type) (c:=cap' -a0) hu hokq hzs hheap (off:=off+a0) (m:=m) (by omega) (by omega)
 rw[←hv]at hrun
 have hxl:=hown.1
 refine hfin _ (xs.take a0++List.replicate m (Value.int kz 0)++xs.drop (a0+m)) hrun (by rw[hσ,hv0];exact ga _ _ _) ?_ (fun i hi=> ?_)
 ·refine⟨by simp;omega, .inr ⟨g',off,cap',_,hv0,hbase,setRow_heap w g' cur _ _ (0,0) hheap,hnc,hcm, ?_, ?_⟩⟩
  ·simp;omega
  ·have:=qz (cur:=cur.toList) (ds:=List.replicate m (Value.int kz 0)) (off:=off) (p:=a0) (N:=n*1) (by simp;omega) (by simp;omega)
   simp only[List.length_replicate]at this
   rw[this,htake]
 ·have e0:(((xs.take a0++List.replicate m (Value.int kz 0)++xs.drop (a0+m)).drop (i*1)).take 1)=if a0≤i∧i<a0+m then[.int kz 0]else(xs.drop (i*1)).take 1:=by
   simp only[Nat.mul_one]at hxl⊢
   have hlen:(xs.take a0++List.replicate m (Value.int kz 0)++xs.drop (a0+m)).length=n:=by simp;omega
   have key:∀(l:List Value) (hl:l.length=n),(l.drop i).take 1=[l[i]'(by omega)]:=fun l hl=>by
    rw[List.drop_eq_getElem_cons (by omega)];rfl
   rw[key _ hlen,key _ hxl]
   split
   ·rename_i h
    rw[List.getElem_append_left (by simp;omega),List.getElem_append_right (by simp;omega)]
    simp
   ·rename_i h
    by_cases h3:i<a0
    ·rw[List.getElem_append_left (by simp;omega),List.getElem_append_left (by simp;omega)]
     simp
    ·rw[List.getElem_append_right (by simp;omega)]
     simp only[List.length_append,List.length_take,List.length_replicate,List.getElem_drop]
     congr 2
     congr 1
     omega
  rw[e0]
  split
  ·rename_i h;rw[h1 i hi h];exact .cons _ _ _ _ (.int _ _) .nil
  ·rename_i h;rw[h2 i hi h];exact hfr i hi
def Ms(κ:Nat→Nat→Option Value)(w:World)(R:D)(E z n:Nat)(el:Nat→List D)(e:Ending)(w' :World):Prop:=∃v sl κ',e= .returned v∧cS κ' (fun _=>1) (fun _=>sl) (kM 0 1 R) v∧(∀b o u,κ b o=some u→κ' b o=some u)∧(∀b o u,b<w.heap.size→κ' b o=some u→κ b o=some u)∧
 (∀b o u,κ' b o=some u→w'.cell? ⟨b,o,none⟩=some u)∧sl.oneCell' =true∧iL w.heap.size κ' (fun _=>1) (fun _=>sl) w' 0 (.arr E z n el)∧(∀b,cx (.arr E z n el) sl=some b→∀o,κ' b o=none)∧Below w.heap.size w w'
theorem HB{κ κ' :Nat→Nat→Option Value}{γ γ' :Nat→Nat}{sv sv' :Nat→Value}{d:D}{v v0:Value}(h:ke d=some v0)(hr:cS κ γ sv d v):cS κ' γ' sv' d v:=by
 cases d<;>simp[ke]at h
 ·cases hr;exact .int _ _
 ·cases hr;exact .bool _
 ·cases hr;exact .str _
theorem HJ{base:Nat}{κ:Nat→Nat→Option Value}{γ:Nat→Nat}{sv:Nat→Value}{w:World}{s:Nat}{E z m:Nat}{f:Nat→List D}(h:iL base κ γ sv w s (.arr E z m f)):∀b,cx (.arr E z m f) (sv s)=some b→base≤b:=fun b hb=>by
 obtain⟨xs,e1,_⟩:=h
 rcases e1.2 with⟨hv,_⟩|⟨g,off,cap,cur,hv,hbase,_⟩
 ·rw[hv]at hb;cases hb
 ·rw[hv]at hb;simp only[cx,Option.some.injEq]at hb;subst hb;exact hbase
theorem Dk{κ:Nat→Nat→Option Value}{sv:Nat→Value}{a:Act}{w:World}(hs:dh X κ sv S a w){f:FuncId}{L A:List D}{vs:List Value}{E z n:Nat}{el:Nat→List D}{s1 g1:Nat}(hc:fH X.Z f A (.os s1 g1) E z n el)(hr:RepL κ S.γ sv L vs)(hA:iU S L A)(hel:∀i,i<n→∀d∈el i,∃v0,ke d=some v0):
 Calls X.Z.P f vs.toArray w (Ms κ w (.os s1 g1) E z n el):=by
 let κ1:Nat→Nat→Option Value:=fun b o=>w.cell? ⟨b,o,none⟩
 have hle:Le κ κ1 S.γ S.γ sv sv:=⟨fun b o v hk=>hs.wld.imm b o v hk,fun _=>Nat.le_refl _,fun _ _=>rfl⟩
 have hr2:=hA.rep hs.wld hle (fun b o v h=>h) hr
 refine(hc.calls w κ1 _ (fun b o v h=>h) (fun g l hg=> ?_) (hr2.pure (fun _ _ _ h=>h) hc.pureA)).mono ?_
 ·obtain⟨h1,u,h2,h3⟩:=dh.fS hs.wld g l hg
  exact⟨h1,u,h2.mono ⟨fun b o v hk=>hs.wld.imm b o v hk,fun _=>Nat.le_refl _,fun _ _=>rfl⟩,fun j v hj=>hs.wld.imm _ _ _ (h3 j v hj)⟩
 ·rintro e w' ⟨v,sl,κ',rfl,hv,k1,k2,k3,hsl,hown,hsep,hb⟩
  have hlt:∀b o u,κ b o=some u→b<w.heap.size:=fun b o u hk=>by simpa using World.block_lt_of_cell? w _ (hs.wld.imm b o u hk)
  refine⟨v,sl,κ,rfl, ?_,fun _ _ _ h=>h,fun _ _ _ _ h=>h,fun b o u hk=>(hb.cell (World.block_lt_of_cell? w _ (hs.wld.imm b o u hk))).trans (hs.wld.imm b o u hk),hsl, ?_,fun b hbk o=> ?_,hb⟩
  ·simp only[kM]at hv⊢
   cases hv with
   |os _ _ _ h1 h2 h3=>exact .os _ _ _ h1 h2 h3
  ·obtain⟨xs,e1,e2,e3,e4⟩:=hown
   refine⟨xs,e1,e2,e3,fun i hi=> ?_⟩
   have key:∀{l:List D} {us:List Value},(∀d∈l,∃v0,ke d=some v0)→RepL κ' (fun _=>1) (fun _=>sl) l us→RepL κ (fun _=>1) (fun _=>sl) l us:=by
    intro l
    induction l with
    |nil=>intro us _ h;cases h;exact .nil
    |cons d l ih=>
     intro us hd h
     cases h with
     |cons _ _ _ _ h1 h2=>
      obtain⟨v0,hv0⟩:=hd d (List.mem_cons_self ..)
      exact .cons _ _ _ _ (HB hv0 h1) (ih (fun x hx=>hd x (List.mem_cons_of_mem _ hx)) h2)
   exact key (hel i hi) (e4 i hi)
  ·cases hk:κ b o with
   |none=>rfl
   |some u=>
    have h1:=hlt b o u hk
    have h2:=HJ hown b hbk
    omega
end
end Go.Ab
namespace Go.Ab
open Go Go.RowKit
set_option linter.all false
theorem P7{X:Ctx}{S:St}{t p q g E z n:Nat}{f:Nat→List D}(hne:p≠q)(hρ:S.ρ t= .os p g)(hg:S.γ p=g)(hσ:S.σ p= .arr E z n f)(hp:X.xa p=false)(hq:X.xa q=false):
 Wk X S ⟨bN S.ρ t (.os q (S.γ q+1)),bN S.γ q (S.γ q+1),bN (bN S.σ q (.arr E z n f)) p .none⟩:=fun κ sv a w hs=>by
 have hle:Le κ κ S.γ (bN S.γ q (S.γ q+1)) sv (bN sv q (sv p)):=by
  refine⟨fun _ _ _ h=>h,fun s=> ?_,fun s h=> ?_⟩
  ·by_cases e:s=q
   ·subst e;rw[aj];omega
   ·rw[bg _ _ _ _ e];exact Nat.le_refl _
  ·by_cases e:s=q
   ·subst e;rw[aj]at h;omega
   ·rw[bg _ _ _ _ e]
 have hb:X.base q=X.base p:=by unfold Ctx.base;rw[hp,hq]
 have key:∀s b,cx ((bN (bN S.σ q (.arr E z n f)) p .none) s) ((bN sv q (sv p)) s)=some b→∃s0,cx (S.σ s0) (sv s0)=some b∧(s=q∧s0=p∨s≠q∧s≠p∧s0=s):=fun s b h=>by
  by_cases e:s=p
  ·subst e;rw[aj]at h;cases h
  ·rw[bg _ _ _ _ e]at h
   by_cases e2:s=q
   ·subst e2;rw[aj,aj]at h
    exact⟨p,by rw[hσ];exact h, .inl ⟨rfl,rfl⟩⟩
   ·rw[bg _ _ _ _ e2,bg _ _ _ _ e2]at h
    exact⟨s,h, .inr ⟨e2,e,rfl⟩⟩
 refine⟨κ,bN sv q (sv p),hs.size,hs.defers,fun j hj=> ?_, ?_⟩
 ·by_cases e:j=t
  ·subst e
   have:=hs.slot j hj
   rw[hρ]at this
   show cS _ _ _ (bN S.ρ j (.os q (S.γ q+1)) j) _
   rw[aj]
   cases this with
   |os _ _ _ a b c=>exact .os _ _ _ (Nat.le_of_eq (aj _ _ _).symm) (fun _=>by rw[aj];exact b hg.symm) c
  ·show cS _ _ _ (bN S.ρ t (.os q (S.γ q+1)) j) _
   rw[bg _ _ _ _ e]
   exact(hs.slot j hj).mono hle
 ·obtain⟨h1,h2,h3,h4,h5,h6,h7,h8,h9,h10,h11,h12,h13,h14⟩:=hs.wld
  refine⟨h1,fun s=> ?_,fun s t b hs1 ht1=> ?_,fun s b o h=> ?_,fun s b h=> ?_, ?_,fun g l hl=> ?_,h8,fun b hb1=> ?_,h10,h11.trans hle,h12,fun s b h=> ?_,h14⟩
  ·show iL _ _ _ _ _ _ (bN (bN S.σ q (.arr E z n f)) p .none s)
   by_cases e:s=p
   ·subst e;rw[aj];trivial
   ·rw[bg _ _ _ _ e]
    by_cases e2:s=q
    ·subst e2
     rw[aj,hb]
     have:=h2 p
     rw[hσ]at this
     obtain⟨xs,o1,o2,o3,o4⟩:=this
     exact⟨xs,by rw[aj];exact o1,o2,o3,fun i hi=>(o4 i hi).mono hle⟩
    ·rw[bg _ _ _ _ e2]
     have:=h2 s
     cases ho:S.σ s with
     |none=>trivial
     |box l=>
      rw[ho]at this
      obtain⟨b,T,cs,o1,o2,o3,o4⟩:=this
      exact⟨b,T,cs,by rw[bg _ _ _ _ e2];exact o1,o2,o3.mono hle,o4⟩
     |arr E2 z2 n2 f2=>
      rw[ho]at this
      obtain⟨xs,o1,o2,o3,o4⟩:=this
      exact⟨xs,by rw[bg _ _ _ _ e2];exact o1,o2,o3,fun i hi=>(o4 i hi).mono hle⟩
     |mp l=>
      rw[ho]at this
      obtain⟨b,es,c,o1,o2,o3⟩:=this
      exact⟨b,es,c,by rw[bg _ _ _ _ e2];exact o1,o2,o3⟩
  ·obtain⟨s0,k1,k2⟩:=key s b hs1
   obtain⟨t0,k3,k4⟩:=key t b ht1
   have e:=h3 s0 t0 b k1 k3
   omega
  ·obtain⟨s0,k1,_⟩:=key s b h;exact h4 s0 b o k1
  ·obtain⟨s0,k1,_⟩:=key s b h;exact h5 s0 b k1
  ·obtain⟨M,m1,m2⟩:=h6
   exact⟨M,m1,fun s b h=>by obtain⟨s0,k1,_⟩:=key s b h;exact m2 s0 b k1⟩
  ·obtain⟨u1,u,u2,u3⟩:=h7 g l hl
   exact⟨u1,u,u2.mono hle,u3⟩
  ·obtain⟨p1,p2⟩:=h9 b hb1
   by_cases e:0=q
   ·subst e;show 1≤bN S.γ 0 (S.γ 0+1) 0∧(bN S.γ 0 (S.γ 0+1) 0=1→_)
    rw[aj];exact⟨by omega,fun h=>by omega⟩
   ·show 1≤bN S.γ q (S.γ q+1) 0∧(bN S.γ q (S.γ q+1) 0=1→bN sv q (sv p) 0=_)
    rw[bg _ _ _ _ e,bg _ _ _ _ e];exact⟨p1,p2⟩
  ·obtain⟨s0,k1,_⟩:=key s b h;exact h13 s0 b k1
end Go.Ab
namespace Go.Ab
open Go Go.RowKit
set_option linter.all false
structure Span where
 Lo:Int
 Hi:Int
 deriving DecidableEq
def iw:Span:=⟨0,0⟩
instance:Inhabited Span:=⟨iw⟩
structure Hold where
 At:Int
 Until:Int
 deriving DecidableEq
def dB:Hold:=⟨0,0⟩
instance:Inhabited Hold:=⟨dB⟩
structure Truck where
 Way:Int
 Start:Int
 Pace:Span
 Holds:List Hold
 deriving DecidableEq
def aK:Truck:=⟨0,0,iw,[]⟩
instance:Inhabited Truck:=⟨aK⟩
structure Convoy where
 Length:Int
 Gap:Int
 Fails:Int
 Trucks:List Truck
 deriving DecidableEq
def cR:Convoy:=⟨0,0,0,[]⟩
instance:Inhabited Convoy:=⟨cR⟩
structure bd where
 Minute:Int
 First:Int
 Second:Int
 FirstFails:Bool
 SecondFails:Bool
 At:Int
 Other:Int
 deriving DecidableEq
def ua:bd:=⟨0,0,0,false,false,0,0⟩
instance:Inhabited bd:=⟨ua⟩
structure cF where
 Truck:Truck
 length:Int
 deriving DecidableEq
def wD:cF:=⟨aK,0⟩
instance:Inhabited cF:=⟨wD⟩
structure bP where
 ride:cF
 gone:List Span
 deriving DecidableEq
def o9:bP:=⟨wD,[]⟩
instance:Inhabited bP:=⟨o9⟩
structure bq where
 a:bP
 b:bP
 deriving DecidableEq
def fX:bq:=⟨o9,o9⟩
instance:Inhabited bq:=⟨fX⟩
structure bC where
 gap:Int
 fails:Int
 deriving DecidableEq
def rH:bC:=⟨0,0⟩
instance:Inhabited bC:=⟨rH⟩
structure nn where
 a:Int
 b:Int
 deriving DecidableEq
def Ch:nn:=⟨0,0⟩
instance:Inhabited nn:=⟨Ch⟩
structure aQ where
 word:Int
 deriving DecidableEq
def Cf:aQ:=⟨0⟩
instance:Inhabited aQ:=⟨Cf⟩
structure mT where
 a:List Span
 b:List Span
 deriving DecidableEq
def BJ:mT:=⟨[],[]⟩
instance:Inhabited mT:=⟨BJ⟩
inductive T where
 |int (k:IntKind)|bool|str|sl (t:T)|ptr (t:T)|clo (f:FuncId) (t:T)|clo0 (f:FuncId)|clo2 (f:FuncId) (t u:T)|clo3 (f:FuncId) (t u v:T)|mfn (f:FuncId) (t:T)
 |Span|Hold|Truck|Convoy|bd|cF|bP|bq|bC|nn|aQ|mT
 deriving DecidableEq
@[reducible] def den:T→Type
  | .int _=>Int
  | .bool=>Bool
  | .str=>ByteArray
  | .sl t=>List (den t)
  | .ptr t=>den t
  | .clo _ t=>den t
  | .clo0 _=>Unit
  | .clo2 _ t u=>den t×den u
  | .clo3 _ t u v=>den t×den u×den v
  | .mfn _ t=>den t
  | .Span=>Span
  | .Hold=>Hold
  | .Truck=>Truck
  | .Convoy=>Convoy
  | .bd=>bd
  | .cF=>cF
  | .bP=>bP
  | .bq=>bq
  | .bC=>bC
  | .nn=>nn
  | .aQ=>aQ
  | .mT=>mT
def sz:T→Nat
 | .Span=>2
 | .Hold=>2
 | .Truck=>5
 | .Convoy=>4
 | .bd=>7
 | .cF=>6
 | .bP=>7
 | .bq=>14
 | .bC=>2
 | .nn=>2
 | .aQ=>1
 | .mT=>2
 |_=>1
def dC:(t:T)→den t
 | .int _=>(0:Int)
 | .bool=>false
 | .str=>(⟨#[]⟩:ByteArray)
 | .sl t=>([]:List (den t))
 | .ptr t=>dC t
 | .clo _ t=>dC t
 | .clo0 _=>()
 | .clo2 _ t u=>(dC t,dC u)
 | .clo3 _ t u v=>(dC t,dC u,dC v)
 | .mfn _ t=>dC t
 | .Span=>iw
 | .Hold=>dB
 | .Truck=>aK
 | .Convoy=>cR
 | .bd=>ua
 | .cF=>wD
 | .bP=>o9
 | .bq=>fX
 | .bC=>rH
 | .nn=>Ch
 | .aQ=>Cf
 | .mT=>BJ
inductive I where
 |int (k:IntKind) (n:Int)
 |bool (b:Bool)
 |str (s:ByteArray)
 |agg (l:List I)
 |tup (l:List I)
 |sl (t:T) (l:List (den t))
 |nsl (t:T) (l:List (den t))
 |nil
 |rp (l:List I) (o:Nat)
 |bx (s g o:Nat)
 |os (s g:Nat)
 |op (s g z i o:Nat)
 |ow (s g z a m:Nat)
 |fn (f:FuncId) (c:List I)
 |yl (l:Nat)
 |mf (f:FuncId) (c:List I)
 |one
 |undef
instance:Inhabited I:=⟨.undef⟩
def tI(k:IntKind):List I→Option (Int×List I)
 | .int k' n::r=>if k' =k then some (n,r)else none
 |_=>none
def tB:List I→Option (Bool×List I)
 | .bool b::r=>some (b,r)
 |_=>none
def tS:List I→Option (ByteArray×List I)
 | .str b::r=>some (b,r)
 |_=>none
def yX(t t' :T)(l:List (den t')):Option (List (den t)):=if h:t' =t then some (h▸l)else none
def tL(t:T):List I→Option (List (den t)×List I)
 | .sl t' l::r=>match yX t t' l with|some l=>some (l,r)|none=>none
 | .nsl t' l::r=>match yX t t' l with|some l=>some (l,r)|none=>none
 | .nil::r=>some ([],r)
 |_=>none
def tE{α:Type}:List I→α→Option α
 |[],a=>some a
 |_,_=>none
def kI:List I→Bool
 |[]=>true
 | .nil::_=>false
 | .nsl _ _::_=>false
 |_::l=>kI l
def tP{α:Type}(dec:List I→Option α):List I→Option α
 | .rp l o::r=>(match r with|[]=>bif kI l&&Nat.beq o 0 then dec l else none|_=>none)
 |_=>none
def tC{α:Type}(f:FuncId)(dec:List I→Option α):List I→Option α
 | .fn g c::r=>(match r with|[]=>bif Nat.beq g f then tP dec c else none|_=>none)
 |_=>none
def QH(f:FuncId):List I→Option Unit
 | .fn g c::r=>(match r with|[]=>bif Nat.beq g f then(match c with|[]=>some ()|_=>none)else none|_=>none)
 |_=>none
def QJ{α β:Type}(f:FuncId)(da:List I→Option α)(db:List I→Option β):List I→Option (α×β)
 | .fn g c::r=>(match r with|[]=>bif Nat.beq g f then(match c with|x::ys=>(tP da [x]).bind fun a=>(tP db ys).bind fun b=>some (a,b)|_=>none)else none|_=>none)
 |_=>none
def Qy{α β γ:Type}(f:FuncId)(da:List I→Option α)(db:List I→Option β)(dc:List I→Option γ):List I→Option (α×β×γ)
 | .fn g c::r=>(match r with|[]=>bif Nat.beq g f then(match c with|x::y::ys=>(tP da [x]).bind fun a=>(tP db [y]).bind fun b=>(tP dc ys).bind fun d=>some (a,b,d)|_=>none)else none|_=>none)
 |_=>none
def tM{α:Type}(f:FuncId)(dec:List I→Option α):List I→Option α
 | .mf g c::r=>(match r with|[]=>bif Nat.beq g f then(match c with|[.agg l]=>bif kI l then dec l else none|_=>none)else none|_=>none)
 |_=>none
@[reducible] def SZ (t:T) (l:List (den t)):List I:=[.sl t l]
def bA(x:Span):List I:=[.int .i64 x.Lo, .int .i64 x.Hi]
def Aq(r:List I):Option Span:=(tI .i64 r).bind fun p0=>(tI .i64 p0.2).bind fun p1=>tE p1.2 ⟨p0.1,p1.1⟩
def fB(x:Hold):List I:=[.int .i64 x.At, .int .i64 x.Until]
def zM(r:List I):Option Hold:=(tI .i64 r).bind fun p0=>(tI .i64 p0.2).bind fun p1=>tE p1.2 ⟨p0.1,p1.1⟩
def bp(x:Truck):List I:=[.int .i64 x.Way, .int .i64 x.Start, .int .i64 x.Pace.Lo, .int .i64 x.Pace.Hi, .sl .Hold x.Holds]
def wO(r:List I):Option Truck:=(tI .i64 r).bind fun p0=>(tI .i64 p0.2).bind fun p1=>(tI .i64 p1.2).bind fun p2=>(tI .i64 p2.2).bind fun p3=>(tL .Hold p3.2).bind fun p4=>tE p4.2 ⟨p0.1,p1.1,⟨p2.1,p3.1⟩,p4.1⟩
def aI(x:Convoy):List I:=[.int .i64 x.Length, .int .i64 x.Gap, .int .i64 x.Fails, .sl .Truck x.Trucks]
def sM(r:List I):Option Convoy:=(tI .i64 r).bind fun p0=>(tI .i64 p0.2).bind fun p1=>(tI .i64 p1.2).bind fun p2=>(tL .Truck p2.2).bind fun p3=>tE p3.2 ⟨p0.1,p1.1,p2.1,p3.1⟩
def cI(x:bd):List I:=[.int .i64 x.Minute, .int .i64 x.First, .int .i64 x.Second, .bool x.FirstFails, .bool x.SecondFails, .int .i64 x.At, .int .i64 x.Other]
def qp(r:List I):Option bd:=(tI .i64 r).bind fun p0=>(tI .i64 p0.2).bind fun p1=>(tI .i64 p1.2).bind fun p2=>(tB p2.2).bind fun p3=>(tB p3.2).bind fun p4=>(tI .i64 p4.2).bind fun p5=>(tI .i64 p5.2).bind fun p6=>tE p6.2 ⟨p0.1,p1.1,p2.1,p3.1,p4.1,p5.1,p6.1⟩
def fw(x:cF):List I:=[.int .i64 x.Truck.Way, .int .i64 x.Truck.Start, .int .i64 x.Truck.Pace.Lo, .int .i64 x.Truck.Pace.Hi, .sl .Hold x.Truck.Holds, .int .i64 x.length]
def AM(r:List I):Option cF:=(tI .i64 r).bind fun p0=>(tI .i64 p0.2).bind fun p1=>(tI .i64 p1.2).bind fun p2=>(tI .i64 p2.2).bind fun p3=>(tL .Hold p3.2).bind fun p4=>(tI .i64 p4.2).bind fun p5=>tE p5.2 ⟨⟨p0.1,p1.1,⟨p2.1,p3.1⟩,p4.1⟩,p5.1⟩
def dj(x:bP):List I:=[.int .i64 x.ride.Truck.Way, .int .i64 x.ride.Truck.Start, .int .i64 x.ride.Truck.Pace.Lo, .int .i64 x.ride.Truck.Pace.Hi, .sl .Hold x.ride.Truck.Holds, .int .i64 x.ride.length, .sl .Span x.gone]
def vX(r:List I):Option bP:=(tI .i64 r).bind fun p0=>(tI .i64 p0.2).bind fun p1=>(tI .i64 p1.2).bind fun p2=>(tI .i64 p2.2).bind fun p3=>(tL .Hold p3.2).bind fun p4=>(tI .i64 p4.2).bind fun p5=>(tL .Span p5.2).bind fun p6=>tE p6.2 ⟨⟨⟨p0.1,p1.1,⟨p2.1,p3.1⟩,p4.1⟩,p5.1⟩,p6.1⟩
def gz(x:bq):List I:=[.int .i64 x.a.ride.Truck.Way, .int .i64 x.a.ride.Truck.Start, .int .i64 x.a.ride.Truck.Pace.Lo, .int .i64 x.a.ride.Truck.Pace.Hi, .sl .Hold x.a.ride.Truck.Holds, .int .i64 x.a.ride.length, .sl .Span x.a.gone, .int .i64 x.b.ride.Truck.Way, .int .i64 x.b.ride.Truck.Start, .int .i64 x.b.ride.Truck.Pace.Lo, .int .i64 x.b.ride.Truck.Pace.Hi, .sl .Hold x.b.ride.Truck.Holds, .int .i64 x.b.ride.length, .sl .Span x.b.gone]
def vP(r:List I):Option bq:=(tI .i64 r).bind fun p0=>(tI .i64 p0.2).bind fun p1=>(tI .i64 p1.2).bind fun p2=>(tI .i64 p2.2).bind fun p3=>(tL .Hold p3.2).bind fun p4=>(tI .i64 p4.2).bind fun p5=>(tL .Span p5.2).bind fun p6=>(tI .i64 p6.2).bind fun p7=>(tI .i64 p7.2).bind fun p8=>(tI .i64 p8.2).bind fun p9=>(tI .i64 p9.2).bind fun p10=>(tL .Hold p10.2).bind fun p11=>(tI .i64 p11.2).bind fun p12=>(tL .Span p12.2).bind fun p13=>tE p13.2 ⟨⟨⟨⟨p0.1,p1.1,⟨p2.1,p3.1⟩,p4.1⟩,p5.1⟩,p6.1⟩,⟨⟨⟨p7.1,p8.1,⟨p9.1,p10.1⟩,p11.1⟩,p12.1⟩,p13.1⟩⟩
def uf(x:bC):List I:=[.int .i64 x.gap, .int .i64 x.fails]
def nX(r:List I):Option bC:=(tI .i64 r).bind fun p0=>(tI .i64 p0.2).bind fun p1=>tE p1.2 ⟨p0.1,p1.1⟩
def Fl(x:nn):List I:=[.int .i64 x.a, .int .i64 x.b]
def Au(r:List I):Option nn:=(tI .i64 r).bind fun p0=>(tI .i64 p0.2).bind fun p1=>tE p1.2 ⟨p0.1,p1.1⟩
def Gt(x:aQ):List I:=[.int .u64 x.word]
def AO(r:List I):Option aQ:=(tI .u64 r).bind fun p0=>tE p0.2 ⟨p0.1⟩
def FG(x:mT):List I:=[.sl .Span x.a, .sl .Span x.b]
def zV(r:List I):Option mT:=(tL .Span r).bind fun p0=>(tL .Span p0.2).bind fun p1=>tE p1.2 ⟨p0.1,p1.1⟩
def b9:(t:T)→den t→List I
 | .int k,x=>[.int k x]
 | .bool,x=>[.bool x]
 | .str,x=>[.str x]
 | .sl t,x=>[.sl t x]
 | .ptr t,x=>[.rp (b9 t x) 0]
 | .clo f t,x=>[.fn f [.rp (b9 t x) 0]]
 | .clo0 f,_=>[.fn f []]
 | .clo2 f t u,x=>[.fn f [.rp (b9 t x.1) 0, .rp (b9 u x.2) 0]]
 | .clo3 f t u v,x=>[.fn f [.rp (b9 t x.1) 0, .rp (b9 u x.2.1) 0, .rp (b9 v x.2.2) 0]]
 | .mfn f t,x=>[.mf f [.agg (b9 t x)]]
 | .Span,x=>bA x
 | .Hold,x=>fB x
 | .Truck,x=>bp x
 | .Convoy,x=>aI x
 | .bd,x=>cI x
 | .cF,x=>fw x
 | .bP,x=>dj x
 | .bq,x=>gz x
 | .bC,x=>uf x
 | .nn,x=>Fl x
 | .aQ,x=>Gt x
 | .mT,x=>FG x
def gi:(t:T)→List I→Option (den t)
 | .int k,r=>(tI k r).bind fun p=>tE p.2 p.1
 | .bool,r=>(tB r).bind fun p=>tE p.2 p.1
 | .str,r=>(tS r).bind fun p=>tE p.2 p.1
 | .sl t,r=>(tL t r).bind fun p=>tE p.2 p.1
 | .ptr t,r=>tP (gi t) r
 | .clo f t,r=>tC f (gi t) r
 | .clo0 f,r=>QH f r
 | .clo2 f t u,r=>QJ f (gi t) (gi u) r
 | .clo3 f t u v,r=>Qy f (gi t) (gi u) (gi v) r
 | .mfn f t,r=>tM f (gi t) r
 | .Span,r=>Aq r
 | .Hold,r=>zM r
 | .Truck,r=>wO r
 | .Convoy,r=>sM r
 | .bd,r=>qp r
 | .cF,r=>AM r
 | .bP,r=>vX r
 | .bq,r=>vP r
 | .bC,r=>nX r
 | .nn,r=>Au r
 | .aQ,r=>AO r
 | .mT,r=>zV r
def ku(x:Span):List D:=[.int .i64 x.Lo, .int .i64 x.Hi]
def jv(x:Hold):List D:=[.int .i64 x.At, .int .i64 x.Until]
def jY(x:Truck):List D:=[.int .i64 x.Way, .int .i64 x.Start, .int .i64 x.Pace.Lo, .int .i64 x.Pace.Hi, .sl 2 x.Holds.length (fun i=>jv (x.Holds.getD i dB))]
def mX(x:Convoy):List D:=[.int .i64 x.Length, .int .i64 x.Gap, .int .i64 x.Fails, .sl 5 x.Trucks.length (fun i=>jY (x.Trucks.getD i aK))]
def uu(x:bd):List D:=[.int .i64 x.Minute, .int .i64 x.First, .int .i64 x.Second, .bool x.FirstFails, .bool x.SecondFails, .int .i64 x.At, .int .i64 x.Other]
def CK(x:cF):List D:=[.int .i64 x.Truck.Way, .int .i64 x.Truck.Start, .int .i64 x.Truck.Pace.Lo, .int .i64 x.Truck.Pace.Hi, .sl 2 x.Truck.Holds.length (fun i=>jv (x.Truck.Holds.getD i dB)), .int .i64 x.length]
def zm(x:bP):List D:=[.int .i64 x.ride.Truck.Way, .int .i64 x.ride.Truck.Start, .int .i64 x.ride.Truck.Pace.Lo, .int .i64 x.ride.Truck.Pace.Hi, .sl 2 x.ride.Truck.Holds.length (fun i=>jv (x.ride.Truck.Holds.getD i dB)), .int .i64 x.ride.length, .sl 2 x.gone.length (fun i=>ku (x.gone.getD i iw))]
def zj(x:bq):List D:=[.int .i64 x.a.ride.Truck.Way, .int .i64 x.a.ride.Truck.Start, .int .i64 x.a.ride.Truck.Pace.Lo, .int .i64 x.a.ride.Truck.Pace.Hi, .sl 2 x.a.ride.Truck.Holds.length (fun i=>jv (x.a.ride.Truck.Holds.getD i dB)), .int .i64 x.a.ride.length, .sl 2 x.a.gone.length (fun i=>ku (x.a.gone.getD i iw)), .int .i64 x.b.ride.Truck.Way, .int .i64 x.b.ride.Truck.Start, .int .i64 x.b.ride.Truck.Pace.Lo, .int .i64 x.b.ride.Truck.Pace.Hi, .sl 2 x.b.ride.Truck.Holds.length (fun i=>jv (x.b.ride.Truck.Holds.getD i dB)), .int .i64 x.b.ride.length, .sl 2 x.b.gone.length (fun i=>ku (x.b.gone.getD i iw))]
def sx(x:bC):List D:=[.int .i64 x.gap, .int .i64 x.fails]
def Bn(x:nn):List D:=[.int .i64 x.a, .int .i64 x.b]
def BO(x:aQ):List D:=[.int .u64 x.word]
def BZ(x:mT):List D:=[.sl 2 x.a.length (fun i=>ku (x.a.getD i iw)), .sl 2 x.b.length (fun i=>ku (x.b.getD i iw))]
def dk:(t:T)→den t→List D
 | .int k,x=>[.int k x]
 | .bool,x=>[.bool x]
 | .str,x=>[.str x]
 | .sl t,x=>[.sl (sz t) x.length (fun i=>dk t (x.getD i (dC t)))]
 | .ptr t,x=>[.rp (dk t x) 0]
 | .clo f t,x=>[.fn f [.rp (dk t x) 0]]
 | .clo0 f,_=>[.fn f []]
 | .clo2 f t u,x=>[.fn f [.rp (dk t x.1) 0, .rp (dk u x.2) 0]]
 | .clo3 f t u v,x=>[.fn f [.rp (dk t x.1) 0, .rp (dk u x.2.1) 0, .rp (dk v x.2.2) 0]]
 | .mfn f t,x=>[.mf f [.agg (dk t x)]]
 | .Span,x=>ku x
 | .Hold,x=>jv x
 | .Truck,x=>jY x
 | .Convoy,x=>mX x
 | .bd,x=>uu x
 | .cF,x=>CK x
 | .bP,x=>zm x
 | .bq,x=>zj x
 | .bC,x=>sx x
 | .nn,x=>Bn x
 | .aQ,x=>BO x
 | .mT,x=>BZ x
def Kg(t:T)(l:List (den t)):D:= .sl (sz t) l.length (fun i=>dk t (l.getD i (dC t)))
def OQ(t:T)(l:List (den t)):D:=match l with|[]=> .nil|_::_=>Kg t l
def rV:T→Bool
 | .int _| .bool| .str| .sl _| .ptr _| .clo _ _| .clo0 _| .clo2 _ _ _| .clo3 _ _ _ _| .mfn _ _=>false
 |_=>true
theorem pA:∀(t:T) (x:den t),aV (dk t x)=true:=by intro t x;cases t<;>rfl
inductive II:I→I→Prop
 |same (d:I):II d d
 |nil (t:T):II .nil (.sl t [])
 |nsl (t:T) (l:List (den t)):II (.nsl t l) (.sl t l)
inductive dE:List I→List I→Prop
 |nil:dE [] []
 |cons {d d' :I} {l l' :List I}:II d d'→dE l l'→dE (d::l) (d' ::l')
theorem bV{k:IntKind}{α:Type}{r:List I}{f:Int×List I→Option α}{x:α}(h:(tI k r).bind f=some x):∃n r',r= .int k n::r'∧f (n,r')=some x:=by
 cases r with
 |nil=>cases h
 |cons d r=>
  cases d<;>try (cases h;done)
  rename_i k' n
  simp only[tI]at h
  split at h
  ·rename_i e;subst e;exact⟨n,r,rfl,h⟩
  ·cases h
theorem A0{α:Type}{r:List I}{f:Bool×List I→Option α}{x:α}(h:(tB r).bind f=some x):∃n r',r= .bool n::r'∧f (n,r')=some x:=by
 cases r with
 |nil=>cases h
 |cons d r=>cases d<;>first|(cases h;done)|exact⟨_,_,rfl,h⟩
theorem LN{α:Type}{r:List I}{f:ByteArray×List I→Option α}{x:α}(h:(tS r).bind f=some x):∃n r',r= .str n::r'∧f (n,r')=some x:=by
 cases r with
 |nil=>cases h
 |cons d r=>cases d<;>first|(cases h;done)|exact⟨_,_,rfl,h⟩
theorem lh{t t' :T}{l:List (den t')}{m:List (den t)}(h:yX t t' l=some m):(I.sl t' l)= .sl t m:=by
 unfold yX at h
 split at h
 ·rename_i e;subst e;simp only[Option.some.injEq]at h;subst h;rfl
 ·cases h
theorem gH{t:T}{α:Type}{r:List I}{f:List (den t)×List I→Option α}{x:α}(h:(tL t r).bind f=some x):∃d l r',r=d::r'∧II d (.sl t l)∧f (l,r')=some x:=by
 cases r with
 |nil=>cases h
 |cons d r=>
  cases d<;>try (cases h;done)
  ·rename_i t' l
   simp only[tL]at h
   cases ha:yX t t' l with
   |none=>rw[ha]at h;cases h
   |some m=>rw[ha]at h;exact⟨_,m,r,rfl,by rw[lh ha];exact .same _,h⟩
  ·rename_i t' l
   simp only[tL]at h
   cases ha:yX t t' l with
   |none=>rw[ha]at h;cases h
   |some m=>
    rw[ha]at h
    have e:=lh ha
    simp only[I.sl.injEq]at e
    obtain⟨rfl,e⟩:=e
    have e:=eq_of_heq e
    subst e
    exact⟨_,_,r,rfl, .nsl _ _,h⟩
  ·exact⟨_,[],r,rfl, .nil t,h⟩
theorem kt:∀{l m:List I},dE l m→kI l=true→l=m
 |_,_, .nil,_=>rfl
 |_,_, .cons (d:=d) (l:=l) h1 h2,hn=>by
  cases h1 with
  |same=>
   have:kI l=true:=by cases d<;>first|exact hn|exact absurd hn (by simp[kI])
   rw[kt h2 this]
  |nil=>cases hn
  |nsl=>cases hn
theorem tK{α:Type}{dec:List I→Option α}{enc:α→List I}(hd:∀{r x},dec r=some x→dE r (enc x)){r:List I}{x:α}(h:tP dec r=some x):r=[.rp (enc x) 0]:=by
 unfold tP at h
 split at h
 ·rename_i l o r'
  split at h
  ·cases hc:kI l&&Nat.beq o 0 with
   |false=>rw[hc]at h;cases h
   |true=>
    rw[hc]at h
    simp only[Bool.and_eq_true]at hc
    rw[kt (hd h) hc.1,Nat.eq_of_beq_eq_true hc.2]
  ·cases h
 ·cases h
theorem O8{α:Type}{f:FuncId}{dec:List I→Option α}{enc:α→List I}(hd:∀{r x},dec r=some x→dE r (enc x)){r:List I}{x:α}(h:tC f dec r=some x):r=[.fn f [.rp (enc x) 0]]:=by
 unfold tC at h
 split at h
 ·rename_i g c r'
  split at h
  ·cases hc:Nat.beq g f with
   |false=>rw[hc]at h;cases h
   |true=>
    rw[hc]at h
    rw[tK hd h,Nat.eq_of_beq_eq_true hc]
  ·cases h
 ·cases h
theorem On{f:FuncId}{r:List I}{x:Unit}(h:QH f r=some x):r=[.fn f []]:=by
 unfold QH at h
 split at h
 ·rename_i g c r'
  split at h
  ·cases hc:Nat.beq g f with
   |false=>rw[hc]at h;cases h
   |true=>
    rw[hc]at h
    simp only[cond_true]at h
    split at h
    ·rw[Nat.eq_of_beq_eq_true hc]
    ·cases h
  ·cases h
 ·cases h
theorem ML{α β:Type}{f:FuncId}{da:List I→Option α}{db:List I→Option β}{ea:α→List I}{eb:β→List I}(ha:∀{r x},da r=some x→dE r (ea x))(hb:∀{r x},db r=some x→dE r (eb x)){r:List I}{x:α×β}(h:QJ f da db r=some x):r=[.fn f [.rp (ea x.1) 0, .rp (eb x.2) 0]]:=by
 unfold QJ at h
 split at h
 ·rename_i g c r'
  split at h
  ·cases hc:Nat.beq g f with
   |false=>rw[hc]at h;cases h
   |true=>
    rw[hc]at h
    simp only[cond_true]at h
    split at h
    ·rename_i y ys
     cases h1:tP da [y]with
     |none=>rw[h1]at h;cases h
     |some a=>
      rw[h1]at h
      simp only[Option.bind_some]at h
      cases h2:tP db ys with
      |none=>rw[h2]at h;cases h
      |some b=>
       rw[h2]at h
       simp only[Option.bind_some,Option.some.injEq]at h
       subst h
       have e1:=tK ha h1
       have e2:=tK hb h2
       simp only[List.cons.injEq,and_true]at e1
       rw[Nat.eq_of_beq_eq_true hc,e1,e2]
    ·cases h
  ·cases h
 ·cases h
theorem NP{α β γ:Type}{f:FuncId}{da:List I→Option α}{db:List I→Option β}{dc:List I→Option γ}{ea:α→List I}{eb:β→List I}{ec:γ→List I}(ha:∀{r x},da r=some x→dE r (ea x))(hb:∀{r x},db r=some x→dE r (eb x))(hc' :∀{r x},dc r=some x→dE r (ec x)){r:List I}{x:α×β×γ}(h:Qy f da db dc r=some x):r=[.fn f [.rp (ea x.1) 0, .rp (eb x.2.1) 0, .rp (ec x.2.2) 0]]:=by
 unfold Qy at h
 split at h
 ·rename_i g c r'
  split at h
  ·cases hc:Nat.beq g f with
   |false=>rw[hc]at h;cases h
   |true=>
    rw[hc]at h
    simp only[cond_true]at h
    split at h
    ·rename_i y y2 ys
     cases h1:tP da [y]with
     |none=>rw[h1]at h;cases h
     |some a=>
      rw[h1]at h
      simp only[Option.bind_some]at h
      cases h2:tP db [y2]with
      |none=>rw[h2]at h;cases h
      |some b=>
       rw[h2]at h
       simp only[Option.bind_some]at h
       cases h3:tP dc ys with
       |none=>rw[h3]at h;cases h
       |some d=>
        rw[h3]at h
        simp only[Option.bind_some,Option.some.injEq]at h
        subst h
        have e1:=tK ha h1
        have e2:=tK hb h2
        have e3:=tK hc' h3
        simp only[List.cons.injEq,and_true]at e1 e2
        rw[Nat.eq_of_beq_eq_true hc,e1,e2,e3]
    ·cases h
  ·cases h
 ·cases h
theorem O1{α:Type}{f:FuncId}{dec:List I→Option α}{enc:α→List I}(hd:∀{r x},dec r=some x→dE r (enc x)){r:List I}{x:α}(h:tM f dec r=some x):r=[.mf f [.agg (enc x)]]:=by
 unfold tM at h
 split at h
 ·rename_i g c r'
  split at h
  ·cases hc:Nat.beq g f with
   |false=>rw[hc]at h;cases h
   |true=>
    rw[hc]at h
    simp only[cond_true]at h
    split at h
    ·rename_i l
     cases hn:kI l with
     |false=>rw[hn]at h;cases h
     |true=>
      rw[hn]at h
      rw[Nat.eq_of_beq_eq_true hc,kt (hd h) hn]
    ·cases h
  ·cases h
 ·cases h
theorem jI{α:Type}{r:List I}{a x:α}(h:tE r a=some x):r=[]∧a=x:=by
 cases r with
 |nil=>exact⟨rfl,by simpa[tE]using h⟩
 |cons=>cases h
theorem DT{r:List I}{x:Span}(h:Aq r=some x):dE r (bA x):=by
 have h0:=h;unfold Aq at h0;clear h
 obtain⟨n0,r0,q0,h1⟩:=bV h0
 replace q0:r=_:=q0;subst q0
 obtain⟨n1,r1,q1,h2⟩:=bV h1
 replace q1:r0=_:=q1;subst q1
 obtain⟨qe,qx⟩:=jI h2
 replace qe:r1=[]:=qe;subst qe;subst qx
 exact .cons (.same _) (.cons (.same _) (dE.nil))
theorem Ey{r:List I}{x:Hold}(h:zM r=some x):dE r (fB x):=by
 have h0:=h;unfold zM at h0;clear h
 obtain⟨n0,r0,q0,h1⟩:=bV h0
 replace q0:r=_:=q0;subst q0
 obtain⟨n1,r1,q1,h2⟩:=bV h1
 replace q1:r0=_:=q1;subst q1
 obtain⟨qe,qx⟩:=jI h2
 replace qe:r1=[]:=qe;subst qe;subst qx
 exact .cons (.same _) (.cons (.same _) (dE.nil))
theorem BE{r:List I}{x:Truck}(h:wO r=some x):dE r (bp x):=by
 have h0:=h;unfold wO at h0;clear h
 obtain⟨n0,r0,q0,h1⟩:=bV h0
 replace q0:r=_:=q0;subst q0
 obtain⟨n1,r1,q1,h2⟩:=bV h1
 replace q1:r0=_:=q1;subst q1
 obtain⟨n2,r2,q2,h3⟩:=bV h2
 replace q2:r1=_:=q2;subst q2
 obtain⟨n3,r3,q3,h4⟩:=bV h3
 replace q3:r2=_:=q3;subst q3
 obtain⟨d4,l4,r4,q4,e4,h5⟩:=gH h4
 replace q4:r3=_:=q4;subst q4
 obtain⟨qe,qx⟩:=jI h5
 replace qe:r4=[]:=qe;subst qe;subst qx
 exact .cons (.same _) (.cons (.same _) (.cons (.same _) (.cons (.same _) (.cons e4 (dE.nil)))))
theorem z8{r:List I}{x:Convoy}(h:sM r=some x):dE r (aI x):=by
 have h0:=h;unfold sM at h0;clear h
 obtain⟨n0,r0,q0,h1⟩:=bV h0
 replace q0:r=_:=q0;subst q0
 obtain⟨n1,r1,q1,h2⟩:=bV h1
 replace q1:r0=_:=q1;subst q1
 obtain⟨n2,r2,q2,h3⟩:=bV h2
 replace q2:r1=_:=q2;subst q2
 obtain⟨d3,l3,r3,q3,e3,h4⟩:=gH h3
 replace q3:r2=_:=q3;subst q3
 obtain⟨qe,qx⟩:=jI h4
 replace qe:r3=[]:=qe;subst qe;subst qx
 exact .cons (.same _) (.cons (.same _) (.cons (.same _) (.cons e3 (dE.nil))))
theorem xq{r:List I}{x:bd}(h:qp r=some x):dE r (cI x):=by
 have h0:=h;unfold qp at h0;clear h
 obtain⟨n0,r0,q0,h1⟩:=bV h0
 replace q0:r=_:=q0;subst q0
 obtain⟨n1,r1,q1,h2⟩:=bV h1
 replace q1:r0=_:=q1;subst q1
 obtain⟨n2,r2,q2,h3⟩:=bV h2
 replace q2:r1=_:=q2;subst q2
 obtain⟨n3,r3,q3,h4⟩:=A0 h3
 replace q3:r2=_:=q3;subst q3
 obtain⟨n4,r4,q4,h5⟩:=A0 h4
 replace q4:r3=_:=q4;subst q4
 obtain⟨n5,r5,q5,h6⟩:=bV h5
 replace q5:r4=_:=q5;subst q5
 obtain⟨n6,r6,q6,h7⟩:=bV h6
 replace q6:r5=_:=q6;subst q6
 obtain⟨qe,qx⟩:=jI h7
 replace qe:r6=[]:=qe;subst qe;subst qx
 exact .cons (.same _) (.cons (.same _) (.cons (.same _) (.cons (.same _) (.cons (.same _) (.cons (.same _) (.cons (.same _) (dE.nil)))))))
theorem Es{r:List I}{x:cF}(h:AM r=some x):dE r (fw x):=by
 have h0:=h;unfold AM at h0;clear h
 obtain⟨n0,r0,q0,h1⟩:=bV h0
 replace q0:r=_:=q0;subst q0
 obtain⟨n1,r1,q1,h2⟩:=bV h1
 replace q1:r0=_:=q1;subst q1
 obtain⟨n2,r2,q2,h3⟩:=bV h2
 replace q2:r1=_:=q2;subst q2
 obtain⟨n3,r3,q3,h4⟩:=bV h3
 replace q3:r2=_:=q3;subst q3
 obtain⟨d4,l4,r4,q4,e4,h5⟩:=gH h4
 replace q4:r3=_:=q4;subst q4
 obtain⟨n5,r5,q5,h6⟩:=bV h5
 replace q5:r4=_:=q5;subst q5
 obtain⟨qe,qx⟩:=jI h6
 replace qe:r5=[]:=qe;subst qe;subst qx
 exact .cons (.same _) (.cons (.same _) (.cons (.same _) (.cons (.same _) (.cons e4 (.cons (.same _) (dE.nil))))))
theorem CT{r:List I}{x:bP}(h:vX r=some x):dE r (dj x):=by
 have h0:=h;unfold vX at h0;clear h
 obtain⟨n0,r0,q0,h1⟩:=bV h0
 replace q0:r=_:=q0;subst q0
 obtain⟨n1,r1,q1,h2⟩:=bV h1
 replace q1:r0=_:=q1;subst q1
 obtain⟨n2,r2,q2,h3⟩:=bV h2
 replace q2:r1=_:=q2;subst q2
 obtain⟨n3,r3,q3,h4⟩:=bV h3
 replace q3:r2=_:=q3;subst q3
 obtain⟨d4,l4,r4,q4,e4,h5⟩:=gH h4
 replace q4:r3=_:=q4;subst q4
 obtain⟨n5,r5,q5,h6⟩:=bV h5
 replace q5:r4=_:=q5;subst q5
 obtain⟨d6,l6,r6,q6,e6,h7⟩:=gH h6
 replace q6:r5=_:=q6;subst q6
 obtain⟨qe,qx⟩:=jI h7
 replace qe:r6=[]:=qe;subst qe;subst qx
 exact .cons (.same _) (.cons (.same _) (.cons (.same _) (.cons (.same _) (.cons e4 (.cons (.same _) (.cons e6 (dE.nil)))))))
theorem Bh{r:List I}{x:bq}(h:vP r=some x):dE r (gz x):=by
 have h0:=h;unfold vP at h0;clear h
 obtain⟨n0,r0,q0,h1⟩:=bV h0
 replace q0:r=_:=q0;subst q0
 obtain⟨n1,r1,q1,h2⟩:=bV h1
 replace q1:r0=_:=q1;subst q1
 obtain⟨n2,r2,q2,h3⟩:=bV h2
 replace q2:r1=_:=q2;subst q2
 obtain⟨n3,r3,q3,h4⟩:=bV h3
 replace q3:r2=_:=q3;subst q3
 obtain⟨d4,l4,r4,q4,e4,h5⟩:=gH h4
 replace q4:r3=_:=q4;subst q4
 obtain⟨n5,r5,q5,h6⟩:=bV h5
 replace q5:r4=_:=q5;subst q5
 obtain⟨d6,l6,r6,q6,e6,h7⟩:=gH h6
 replace q6:r5=_:=q6;subst q6
 obtain⟨n7,r7,q7,h8⟩:=bV h7
 replace q7:r6=_:=q7;subst q7
 obtain⟨n8,r8,q8,h9⟩:=bV h8
 replace q8:r7=_:=q8;subst q8
 obtain⟨n9,r9,q9,h10⟩:=bV h9
 replace q9:r8=_:=q9;subst q9
 obtain⟨n10,r10,q10,h11⟩:=bV h10
 replace q10:r9=_:=q10;subst q10
 obtain⟨d11,l11,r11,q11,e11,h12⟩:=gH h11
 replace q11:r10=_:=q11;subst q11
 obtain⟨n12,r12,q12,h13⟩:=bV h12
 replace q12:r11=_:=q12;subst q12
 obtain⟨d13,l13,r13,q13,e13,h14⟩:=gH h13
 replace q13:r12=_:=q13;subst q13
 obtain⟨qe,qx⟩:=jI h14
 replace qe:r13=[]:=qe;subst qe;subst qx
 exact .cons (.same _) (.cons (.same _) (.cons (.same _) (.cons (.same _) (.cons e4 (.cons (.same _) (.cons e6 (.cons (.same _) (.cons (.same _) (.cons (.same _) (.cons (.same _) (.cons e11 (.cons (.same _) (.cons e13 (dE.nil))))))))))))))
theorem ve{r:List I}{x:bC}(h:nX r=some x):dE r (uf x):=by
 have h0:=h;unfold nX at h0;clear h
 obtain⟨n0,r0,q0,h1⟩:=bV h0
 replace q0:r=_:=q0;subst q0
 obtain⟨n1,r1,q1,h2⟩:=bV h1
 replace q1:r0=_:=q1;subst q1
 obtain⟨qe,qx⟩:=jI h2
 replace qe:r1=[]:=qe;subst qe;subst qx
 exact .cons (.same _) (.cons (.same _) (dE.nil))
theorem DE{r:List I}{x:nn}(h:Au r=some x):dE r (Fl x):=by
 have h0:=h;unfold Au at h0;clear h
 obtain⟨n0,r0,q0,h1⟩:=bV h0
 replace q0:r=_:=q0;subst q0
 obtain⟨n1,r1,q1,h2⟩:=bV h1
 replace q1:r0=_:=q1;subst q1
 obtain⟨qe,qx⟩:=jI h2
 replace qe:r1=[]:=qe;subst qe;subst qx
 exact .cons (.same _) (.cons (.same _) (dE.nil))
theorem DD{r:List I}{x:aQ}(h:AO r=some x):dE r (Gt x):=by
 have h0:=h;unfold AO at h0;clear h
 obtain⟨n0,r0,q0,h1⟩:=bV h0
 replace q0:r=_:=q0;subst q0
 obtain⟨qe,qx⟩:=jI h1
 replace qe:r0=[]:=qe;subst qe;subst qx
 exact .cons (.same _) (dE.nil)
theorem EB{r:List I}{x:mT}(h:zV r=some x):dE r (FG x):=by
 have h0:=h;unfold zV at h0;clear h
 obtain⟨d0,l0,r0,q0,e0,h1⟩:=gH h0
 replace q0:r=_:=q0;subst q0
 obtain⟨d1,l1,r1,q1,e1,h2⟩:=gH h1
 replace q1:r0=_:=q1;subst q1
 obtain⟨qe,qx⟩:=jI h2
 replace qe:r1=[]:=qe;subst qe;subst qx
 exact .cons e0 (.cons e1 (dE.nil))
theorem dm:∀(t:T) {r:List I} {x:den t},gi t r=some x→dE r (b9 t x)
 | .int k,r,x,h=>by
   obtain⟨n,r2,q,h2⟩:=bV (show(tI k r).bind _=_ from h)
   obtain⟨qe,qx⟩:=jI h2
   replace qe:r2=[]:=qe
   subst q;subst qe;subst qx;exact .cons (.same _) .nil
 | .bool,r,x,h=>by
   obtain⟨n,r2,q,h2⟩:=A0 (show(tB r).bind _=_ from h)
   obtain⟨qe,qx⟩:=jI h2
   replace qe:r2=[]:=qe
   subst q;subst qe;subst qx;exact .cons (.same _) .nil
 | .str,r,x,h=>by
   obtain⟨n,r2,q,h2⟩:=LN (show(tS r).bind _=_ from h)
   obtain⟨qe,qx⟩:=jI h2
   replace qe:r2=[]:=qe
   subst q;subst qe;subst qx;exact .cons (.same _) .nil
 | .sl t,r,x,h=>by
   obtain⟨d,l,r2,q,e,h2⟩:=gH (show(tL t r).bind _=_ from h)
   obtain⟨qe,qx⟩:=jI h2
   replace qe:r2=[]:=qe
   subst q;subst qe;subst qx;exact .cons e .nil
 | .ptr t,r,x,h=>by rw[tK (fun h=>dm t h) (show tP (gi t) r=some x from h)];exact .cons (.same _) .nil
 | .clo f t,r,x,h=>by rw[O8 (fun h=>dm t h) (show tC f (gi t) r=some x from h)];exact .cons (.same _) .nil
 | .clo0 f,r,x,h=>by rw[On (show QH f r=some x from h)];exact .cons (.same _) .nil
 | .clo3 f t u v,r,x,h=>by rw[NP (fun h=>dm t h) (fun h=>dm u h) (fun h=>dm v h) (show Qy f (gi t) (gi u) (gi v) r=some x from h)];exact .cons (.same _) .nil
 | .clo2 f t u,r,x,h=>by rw[ML (fun h=>dm t h) (fun h=>dm u h) (show QJ f (gi t) (gi u) r=some x from h)];exact .cons (.same _) .nil
 | .mfn f t,r,x,h=>by rw[O1 (fun h=>dm t h) (show tM f (gi t) r=some x from h)];exact .cons (.same _) .nil
 | .Span,r,x,h=>DT h
 | .Hold,r,x,h=>Ey h
 | .Truck,r,x,h=>BE h
 | .Convoy,r,x,h=>z8 h
 | .bd,r,x,h=>xq h
 | .cF,r,x,h=>Es h
 | .bP,r,x,h=>CT h
 | .bq,r,x,h=>Bh h
 | .bC,r,x,h=>ve h
 | .nn,r,x,h=>DE h
 | .aQ,r,x,h=>DD h
 | .mT,r,x,h=>EB h
mutual
def I.b8(h:Nat→Nat):I→D
 | .int k n=> .int k n
 | .bool b=> .bool b
 | .str s=> .str s
 | .agg l=> .agg (I.av h l)
 | .tup l=> .tup (I.av h l)
 | .sl t l=>Kg t l
 | .nsl t l=>OQ t l
 | .nil=> .nil
 | .rp l o=> .rp (I.av h l) o
 | .bx s g o=> .bx s (h s+g) o
 | .os s g=> .os s (h s+g)
 | .op s g z i o=> .op s (h s+g) z i o
 | .ow s g z a m=> .ow s (h s+g) z a m
 | .fn f c=> .fn f (I.av h c)
 | .yl l=> .yl (h l)
 | .mf f c=> .mf f (I.av h c)
 | .one=> .one
 | .undef=> .undef
def I.av(h:Nat→Nat):List I→List D
 |[]=>[]
 |d::l=>d.b8 h::I.av h l
end
theorem bc(h:Nat→Nat):∀(t:T) (x:den t),I.av h (b9 t x)=dk t x:=by
 intro t
 induction t with
 |ptr t ih=>intro x;show[D.rp (I.av h (b9 t x)) 0]=_;rw[ih];rfl
 |clo f t ih=>intro x;show[D.fn f [D.rp (I.av h (b9 t x)) 0]]=_;rw[ih];rfl
 |clo3 f t u v ih1 ih2 ih3=>intro x;show[D.fn f [D.rp (I.av h (b9 t x.1)) 0,D.rp (I.av h (b9 u x.2.1)) 0,D.rp (I.av h (b9 v x.2.2)) 0]]=_;rw[ih1,ih2,ih3];rfl
 |clo2 f t u ih1 ih2=>intro x;show[D.fn f [D.rp (I.av h (b9 t x.1)) 0,D.rp (I.av h (b9 u x.2)) 0]]=_;rw[ih1,ih2];rfl
 |mfn f t ih=>intro x;show[D.mf f [D.agg (I.av h (b9 t x))]]=_;rw[ih];rfl
 |_=>intro x;rfl
theorem lD(x:Span):af (ku x):=af.cons (.int _ _) (af.cons (.int _ _) (af.nil))
theorem mj(x:Hold):af (jv x):=af.cons (.int _ _) (af.cons (.int _ _) (af.nil))
theorem zF(x:Truck):af (jY x):=af.cons (.int _ _) (af.cons (.int _ _) (af.cons (.int _ _) (af.cons (.int _ _) (af.cons (.sl _ _ _ fun i _ d hd=>mj _ d hd) (af.nil)))))
theorem Du(x:Convoy):af (mX x):=af.cons (.int _ _) (af.cons (.int _ _) (af.cons (.int _ _) (af.cons (.sl _ _ _ fun i _ d hd=>zF _ d hd) (af.nil))))
theorem Cc(x:bd):af (uu x):=af.cons (.int _ _) (af.cons (.int _ _) (af.cons (.int _ _) (af.cons (.bool _) (af.cons (.bool _) (af.cons (.int _ _) (af.cons (.int _ _) (af.nil)))))))
theorem Ju(x:cF):af (CK x):=af.cons (.int _ _) (af.cons (.int _ _) (af.cons (.int _ _) (af.cons (.int _ _) (af.cons (.sl _ _ _ fun i _ d hd=>mj _ d hd) (af.cons (.int _ _) (af.nil))))))
theorem Ho(x:bP):af (zm x):=af.cons (.int _ _) (af.cons (.int _ _) (af.cons (.int _ _) (af.cons (.int _ _) (af.cons (.sl _ _ _ fun i _ d hd=>mj _ d hd) (af.cons (.int _ _) (af.cons (.sl _ _ _ fun i _ d hd=>lD _ d hd) (af.nil)))))))
theorem GG(x:bq):af (zj x):=af.cons (.int _ _) (af.cons (.int _ _) (af.cons (.int _ _) (af.cons (.int _ _) (af.cons (.sl _ _ _ fun i _ d hd=>mj _ d hd) (af.cons (.int _ _) (af.cons (.sl _ _ _ fun i _ d hd=>lD _ d hd) (af.cons (.int _ _) (af.cons (.int _ _) (af.cons (.int _ _) (af.cons (.int _ _) (af.cons (.sl _ _ _ fun i _ d hd=>mj _ d hd) (af.cons (.int _ _) (af.cons (.sl _ _ _ fun i _ d hd=>lD _ d hd) (af.nil))))))))))))))
theorem Ap(x:bC):af (sx x):=af.cons (.int _ _) (af.cons (.int _ _) (af.nil))
theorem H3(x:nn):af (Bn x):=af.cons (.int _ _) (af.cons (.int _ _) (af.nil))
theorem I4(x:aQ):af (BO x):=af.cons (.int _ _) (af.nil)
theorem IY(x:mT):af (BZ x):=af.cons (.sl _ _ _ fun i _ d hd=>lD _ d hd) (af.cons (.sl _ _ _ fun i _ d hd=>lD _ d hd) (af.nil))
theorem cz:∀(t:T) (x:den t),af (dk t x)
 | .int k,x=>af.cons (.int _ _) af.nil
 | .bool,x=>af.cons (.bool _) af.nil
 | .str,x=>af.cons (.str _) af.nil
 | .sl t,x=>af.cons (.sl _ _ _ fun i _ d hd=>cz t _ d hd) af.nil
 | .ptr t,x=>af.cons (.rp _ _ (cz t x)) af.nil
 | .clo f t,x=>af.cons (.fn _ _ (af.cons (.rp _ _ (cz t x)) af.nil)) af.nil
 | .clo0 f,x=>af.cons (.fn _ _ af.nil) af.nil
 | .clo3 f t u v,x=>af.cons (.fn _ _ (af.cons (.rp _ _ (cz t x.1)) (af.cons (.rp _ _ (cz u x.2.1)) (af.cons (.rp _ _ (cz v x.2.2)) af.nil)))) af.nil
 | .clo2 f t u,x=>af.cons (.fn _ _ (af.cons (.rp _ _ (cz t x.1)) (af.cons (.rp _ _ (cz u x.2)) af.nil))) af.nil
 | .mfn f t,x=>af.cons (.mf _ _ (af.cons (.agg _ (cz t x)) af.nil)) af.nil
 | .Span,x=>lD x
 | .Hold,x=>mj x
 | .Truck,x=>zF x
 | .Convoy,x=>Du x
 | .bd,x=>Cc x
 | .cF,x=>Ju x
 | .bP,x=>Ho x
 | .bq,x=>GG x
 | .bC,x=>Ap x
 | .nn,x=>H3 x
 | .aQ,x=>I4 x
 | .mT,x=>IY x
end Go.Ab
namespace Go.Ab
open Go Go.RowKit
set_option linter.all false
def XB:Nat:=900000000
def gM(q:Nat→Nat):Nat→Nat→Nat
 |0=>fun _=>0
 |n+1=>fun s=>bif Nat.beq s (q n)then 1 else gM q n s
theorem wN{q:Nat→Nat}:∀{n i:Nat},i<n→gM q n (q i)=1
 |n+1,i,h=>by
  simp only[gM]
  cases hb:Nat.beq (q i) (q n)with
  |true=>rfl
  |false=>
   have hne:i≠n:=fun e=>by rw[e,Nat.beq_refl]at hb;cases hb
   exact wN (by omega)
def zW(q:Nat→Nat)(os:Nat→Own):Nat→Nat→Own
 |0=>fun _=> .none
 |n+1=>fun s=>bif Nat.beq s (q n)then os n else zW q os n s
theorem uX{q:Nat→Nat}{os:Nat→Own}:∀{n:Nat} {s:Nat},(∃i,i<n∧s=q i∧zW q os n s=os i)∨zW q os n s= .none
 |0,s=> .inr rfl
 |n+1,s=>by
  simp only[zW]
  cases hb:Nat.beq s (q n)with
  |true=>exact .inl ⟨n,Nat.lt_succ_self _,Nat.eq_of_beq_eq_true hb,rfl⟩
  |false=>
   rcases @uX q os n s with⟨i,h1,h2,h3⟩|h
   ·exact .inl ⟨i,by omega,h2,h3⟩
   ·exact .inr h
theorem Gp{q:Nat→Nat}{os:Nat→Own}:∀{n i:Nat},(∀i j,i<n→j<n→q i=q j→i=j)→i<n→zW q os n (q i)=os i
 |n+1,i,hq,h=>by
  simp only[zW]
  cases hb:Nat.beq (q i) (q n)with
  |true=>rw[hq i n h (Nat.lt_succ_self _) (Nat.eq_of_beq_eq_true hb)];rfl
  |false=>
   have hne:i≠n:=fun e=>by rw[e,Nat.beq_refl]at hb;cases hb
   exact Gp (fun a b ha hb=>hq a b (by omega) (by omega)) (by omega)
mutual
inductive Rn (n:Nat) (p g p' g' :Nat→Nat):D→D→Prop
 |pure (d:D):Pure d→Rn n p g p' g' d d
 |bx (i o:Nat):i<n→Rn n p g p' g' (.bx (p i) (g i) o) (.bx (p' i) (g' i) o)
 |os (i:Nat):i<n→Rn n p g p' g' (.os (p i) (g i)) (.os (p' i) (g' i))
 |agg (l l' :List D):vW n p g p' g' l l'→Rn n p g p' g' (.agg l) (.agg l')
 |fn (f:FuncId) (c c' :List D):vW n p g p' g' c c'→Rn n p g p' g' (.fn f c) (.fn f c')
inductive vW (n:Nat) (p g p' g' :Nat→Nat):List D→List D→Prop
 |nil:vW n p g p' g' [] []
 |cons (d d' :D) (l l' :List D):Rn n p g p' g' d d'→vW n p g p' g' l l'→vW n p g p' g' (d::l) (d' ::l')
end
section
variable {κ κ' :Nat→Nat→Option Value} {γ γ' :Nat→Nat} {sv sv' :Nat→Value} {n:Nat} {p g p' g' :Nat→Nat}
mutual
theorem Rn.rep(hκ:∀b o v,κ b o=some v→κ' b o=some v)(h1:∀i,i<n→γ (p i)=g i)(h2:∀i,i<n→γ' (p' i)=g' i)(h3:∀i,i<n→sv (p i)=sv' (p' i)):∀{d d' :D} {v:Value},Rn n p g p' g' d d'→cS κ γ sv d v→cS κ' γ' sv' d' v
 |_,_,_, .pure d hd,hr=>hr.pure hκ hd
 |_,_,_, .bx i o hi,hr=>by
  cases hr with
  |bx _ _ _ _ a b c=>
   obtain⟨b1,e1,e2⟩:=b (h1 i hi).symm
   exact .bx _ _ _ _ (Nat.le_of_eq (h2 i hi).symm) (fun _=>⟨b1,by rw[←h3 i hi];exact e1,e2⟩) c
 |_,_,_, .os i hi,hr=>by
  cases hr with
  |os _ _ _ a b c=>exact .os _ _ _ (Nat.le_of_eq (h2 i hi).symm) (fun _=>by rw[←h3 i hi];exact b (h1 i hi).symm) c
 |_,_,_, .agg l l' hl,hr=>by
  cases hr with
  |agg _ vs hv=>exact .agg _ _ (vW.rep hκ h1 h2 h3 hl hv)
 |_,_,_, .fn f c c' hl,hr=>by
  cases hr with
  |fn _ _ vs hv=>exact .fn _ _ _ (vW.rep hκ h1 h2 h3 hl hv)
theorem vW.rep(hκ:∀b o v,κ b o=some v→κ' b o=some v)(h1:∀i,i<n→γ (p i)=g i)(h2:∀i,i<n→γ' (p' i)=g' i)(h3:∀i,i<n→sv (p i)=sv' (p' i)):∀{l l' :List D} {vs:List Value},vW n p g p' g' l l'→RepL κ γ sv l vs→RepL κ' γ' sv' l' vs
 |_,_,_, .nil,hr=>by cases hr;exact .nil
 |_,_,_, .cons d d' l l' a b,hr=>by
  cases hr with
  |cons _ _ _ _ r1 r2=>exact .cons _ _ _ _ (Rn.rep hκ h1 h2 h3 a r1) (vW.rep hκ h1 h2 h3 b r2)
end
end
theorem K6{n:Nat}{p g p' g' :Nat→Nat}{d d' :D}(h:Rn n p g p' g' d d'):d'.je=d.je:=by cases h<;>rfl
theorem BY{n:Nat}{p g p' g' :Nat→Nat}:∀{l l' :List D},vW n p g p' g' l l'→aV l=true→aV l' =true
 |_,_, .nil,h=>h
 |_,_, .cons d d' l l' a b,h=>by
  simp only[aV,Bool.and_eq_true]at h⊢
  exact⟨by rw[K6 a];exact h.1,BY b h.2⟩
inductive nk (n:Nat) (p g p' g' :Nat→Nat):Own→Own→Prop
 |box (l l' :List D):vW n p g p' g' l l'→nk n p g p' g' (.box l) (.box l')
 |arr (E z m:Nat) (f:Nat→List D):(∀i,i<m→af (f i))→nk n p g p' g' (.arr E z m f) (.arr E z m f)
theorem nk.owns{κ κ' :Nat→Nat→Option Value}{γ γ' :Nat→Nat}{sv sv' :Nat→Value}{n:Nat}{p g p' g' :Nat→Nat}{w:World}(hκ:∀b o v,κ b o=some v→κ' b o=some v)(h1:∀i,i<n→γ (p i)=g i)(h2:∀i,i<n→γ' (p' i)=g' i)(h3:∀i,i<n→sv (p i)=sv' (p' i)){s s' :Nat}(hs:sv s=sv' s'){base base' :Nat}{o o' :Own}(hb:∀E z m f b,o= .arr E z m f→cx o (sv s)=some b→base'≤b)(h:nk n p g p' g' o o')(ho:iL base κ γ sv w s o):iL base' κ' γ' sv' w s' o' :=by
 cases h with
 |box l l' hl=>
  obtain⟨b,T,cs,e1,e2,e3,e4⟩:=ho
  exact⟨b,T,cs,by rw[←hs];exact e1,e2,hl.rep hκ h1 h2 h3 e3,BY hl e4⟩
 |arr E z m f hf=>
  obtain⟨xs,e1,e2,e3,e4⟩:=ho
  refine⟨xs, ?_,e2,e3,fun i hi=>(e4 i hi).pure hκ (hf i hi)⟩
  rw[←hs]
  refine⟨e1.1, ?_⟩
  rcases e1.2 with hn|⟨g,off,cap,cur,q1,q2,rest⟩
  ·exact .inl hn
  ·exact .inr ⟨g,off,cap,cur,q1,hb E z m f g rfl (by rw[q1];rfl),rest⟩
theorem nk.cx{n:Nat}{p g p' g' :Nat→Nat}{o o' :Own}(h:nk n p g p' g' o o')(v:Value):Ab.cx o' v=Ab.cx o v:=by
 cases h with
 |box=>cases v with
  |pointer a=>cases a<;>rfl
  |slice a _ _=>cases a<;>rfl
  |map a=>cases a<;>rfl
  |_=>rfl
 |arr=>rfl
theorem KP{base:Nat}{κ:Nat→Nat→Option Value}{γ:Nat→Nat}{sv:Nat→Value}{w:World}{s:Nat}{E z m:Nat}{f:Nat→List D}(h:iL base κ γ sv w s (.arr E z m f)):∀b,cx (.arr E z m f) (sv s)=some b→base≤b:=fun b hb=>by
 obtain⟨xs,e1,_⟩:=h
 rcases e1.2 with⟨hv,_⟩|⟨g,off,cap,cur,hv,hbase,_⟩
 ·rw[hv]at hb;cases hb
 ·rw[hv]at hb;simp only[cx,Option.some.injEq]at hb;subst hb;exact hbase
inductive Mx:Own→Own→Prop
 |box (l l' :List D):Mx (.box l) (.box l')
 |arr (E z m:Nat) (f:Nat→List D) (E' z' m' :Nat) (f' :Nat→List D):Mx (.arr E z m f) (.arr E' z' m' f')
theorem Mx.cx{o o' :Own}(h:Mx o o')(v:Value):Ab.cx o' v=Ab.cx o v:=by
 cases h<;>cases v with
  |pointer a=>cases a<;>rfl
  |slice a _ _=>cases a<;>rfl
  |map a=>cases a<;>rfl
  |_=>rfl
structure vK (n:Nat) (bs:Nat→Option Nat) (w w' :World):Prop where
 os:w'.os=w.os
 tape:w'.tape=w.tape
 output:w'.output=w.output
 size:w.heap.size≤w'.heap.size
 block:∀k,k<w.heap.size→(∀i,i<n→bs i≠some k)→w'.heap[k]? =w.heap[k]?
theorem vK.refl(n:Nat)(bs:Nat→Option Nat)(w:World):vK n bs w w:=⟨rfl,rfl,rfl,Nat.le_refl _,fun _ _ _=>rfl⟩
def one:Nat→Nat:=fun _=>1
structure lV (Z:Seat) (f:FuncId) (n:Nat) (q:Nat→Nat) (os os' :Nat→Own) (A:List D) (R:D):Prop where
 pureR:Pure R
 kind:∀i,i<n→Mx (os i) (os' i)
 body:fN Z.P f
 calls:∀(w:World) (κ:Nat→Nat→Option Value) (sv:Nat→Value) (args:List Value),(∀i j b,i<n→j<n→cx (os i) (sv (q i))=some b→cx (os j) (sv (q j))=some b→i=j)→Fits κ w→(∀i b,i<n→cx (os i) (sv (q i))=some b→∀o,κ b o=none)→jD Z κ→
  (∀i,i<n→iL 0 κ (gM q n) sv w (q i) (os i))→RepL κ (gM q n) sv A args→
  Calls Z.P f args.toArray w fun e w' =>∃v,e= .returned v∧cS (eC κ w w') rI mA R v∧(∀i,i<n→iL 0 (eC κ w w') (gM q n) sv w' (q i) (os' i))∧vK n (fun i=>cx (os i) (sv (q i))) w w'
def vg(w0:World)(n:Nat)(bs:Nat→Option Nat)(M:Nat→Prop)(w:World):Prop:=vK n bs w0 w∧∀k,M k→w0.heap.size≤k∨∃i,i<n∧bs i=some k
theorem Jp(w0:World)(n:Nat)(bs:Nat→Option Nat):∀M w w',vg w0 n bs M w→Step M w w'→vg w0 n bs (fun k=>M k∨w.heap.size≤k) w' :=fun M w w' h hs=>
 ⟨⟨hs.os.trans h.1.os,hs.tape.trans h.1.tape,hs.output.trans h.1.output,Nat.le_trans h.1.size hs.size,fun k hk he=>
   (hs.block k (Nat.lt_of_lt_of_le hk h.1.size) (fun hm=>by
     rcases h.2 k hm with h8|⟨i,h8,h9⟩
     ·omega
     ·exact he i h8 h9)).trans (h.1.block k hk he)⟩,
   fun k hk=>by
    rcases hk with hk|hk
    ·exact h.2 k hk
    ·exact .inl (Nat.le_trans h.1.size hk)⟩
theorem Dw{w0:World}{n:Nat}{bs:Nat→Option Nat}:∀M w w' D,vg w0 n bs M w→w.grownBy w' (some D)→w0.heap.size≤D→vg w0 n bs M w' :=fun M w w' D h1 hg hD=>
 ⟨⟨hg.os.trans h1.1.os,hg.tape.trans h1.1.tape,hg.output.trans h1.1.output,Nat.le_trans h1.1.size hg.size,fun k hk he=>
   (hg.block k (Nat.lt_of_lt_of_le hk h1.1.size) (fun e=>by simp only[Option.some.injEq]at e;omega)).trans (h1.1.block k hk he)⟩,h1.2⟩
def Ctx.yo(Z:Seat)(nt:Nat)(w0:World)(κ0:Nat→Nat→Option Value)(n:Nat)(q:Nat→Nat)(bs:Nat→Option Nat)(sv:Nat→Value):Ctx:=⟨Z,nt,w0,κ0,none,fun b=>∃i,i<n∧bs i=some b,fun _ _=>none,gM q n,sv,fun _=>False,false,none,vg w0 n bs,Jp w0 n bs,fun s=>Nat.ble XB s⟩
def St.tF(n:Nat)(q:Nat→Nat)(os:Nat→Own)(A:List D):St:=⟨fun i=>match nth A i with|some d=>d|none=> .undef,gM q n,zW q os n⟩
def Ar(o o' :Own):Prop:=(∀v,cx o v=cx o' v)∧∀base κ γ sv w s,iL base κ γ sv w s o→iL base κ γ sv w s o'
def QR(X:Ctx)(rs:List ResultVar)(n:Nat)(q:Nat→Nat)(os' :Nat→Own)(R:D):Exit→St→Prop
 | .normal,S| .ret,S=>∃S' ds,Wk X S S'∧(∀i,i<n→S'.γ (q i)=1∧Ar (S'.σ (q i)) (os' i))∧mL X S' rs ds∧∀κ γ sv v,cS κ γ sv (iz ds) v→cS κ γ sv R v
 |_,_=>False
theorem uH{Z:Seat}{f:FuncId}{fn:Func}{c:Code}{n:Nat}{q:Nat→Nat}{os os' :Nat→Own}{A:List D}{R:D}(hf:Z.P.funcs[f]? =some fn)(hb:fn.body=some c)(hname:(fn.name== "runtime.NumGoroutine")=false)(hn:Nat.ble A.length fn.ntmps=true)
 (hq:∀i j,i<n→j<n→q i=q j→i=j)(hx:∀i,i<n→∀E z m f,os i= .arr E z m f→XB≤q i)(hk:∀i,i<n→Mx (os i) (os' i))(ht' :∀i,i<n→nk n q one q one (os' i) (os' i))(hR:Pure R)
 (h:∀w κ bs sv,W (Ctx.yo Z fn.ntmps w κ n q bs sv) c (QR (Ctx.yo Z fn.ntmps w κ n q bs sv) fn.results.toList n q os' R) (St.tF n q os A)):lV Z f n q os os' A R:=by
 refine⟨hR,hk,⟨fn,c,hf,hb,hname⟩,fun w κ sv args hinj hκ hκb hglob hbox hrep=> ?_⟩
 refine(callsIn_wide (n:=0)).1 (callsIn_of_wp_marks hf hb trivial ?_ rfl)
 have hlen:A.length≤fn.ntmps:=Nat.le_of_ble_eq_true hn
 have hal:=hrep.length
 have hσ:∀s b',cx (zW q os n s) (sv s)=some b'→∃i,i<n∧s=q i∧cx (os i) (sv (q i))=some b' :=by
  intro s b' hs
  rcases @uX q os n s with⟨i,h1,h2,h3⟩|h3
  ·rw[h3,h2]at hs;exact⟨i,h1,h2,hs⟩
  ·rw[h3]at hs;cases hs
 have hsim:dh (Ctx.yo Z fn.ntmps w κ n q (fun i=>cx (os i) (sv (q i))) sv) κ sv (St.tF n q os A) {tmps:=args.toArray++Array.replicate (fn.ntmps-args.toArray.size) Go.undef,defers:=[]} w:=by
  refine⟨by simp[Ctx.yo];omega,sU.nil rfl,fun i _=>iQ hrep _ i, ?_⟩
  refine⟨hκ,fun s=> ?_,fun s t b' hs ht=> ?_,fun s b' o hs=> ?_,fun s b' hs=> .inr (.inr ?_),⟨fun k=>∃i,i<n∧cx (os i) (sv (q i))=some k,⟨vK.refl _ _ _,fun k h=> .inr h⟩,fun s b' hs=> ?_⟩,fun g l hg=> ?_,fun b o v _ hk=>hk,(fun b' hb' =>by cases hb'),Nat.le_refl _,⟨fun _ _ _ h=>(by cases h),fun _=>Nat.le_refl _,fun _ _=>rfl⟩,fun _ _ _ _ h=>h,fun _ _ _ h=>h,fun _ h=>h.elim⟩
  ·show iL _ _ _ _ _ s (zW q os n s)
   rcases @uX q os n s with⟨i,h1,h2,h3⟩|h3
   ·rw[h3]
    subst h2
    have h4:=hbox i h1
    cases ho:os i with
    |none=>trivial
    |box l=>rw[ho]at h4;exact h4
    |mp l=>rw[ho]at h4;exact h4
    |arr E z m f=>
     have hxa:(Ctx.yo Z fn.ntmps w κ n q (fun i=>cx (os i) (sv (q i))) sv).base (q i)=0:=by
      show(bif Nat.ble XB (q i)then 0 else _)=0
      rw[Nat.ble_eq_true_of_le (hx i h1 E z m f ho)];rfl
     rw[ho]at h4
     rw[hxa];exact h4
   ·rw[h3];trivial
  ·obtain⟨i,h1,rfl,h2⟩:=hσ s b' hs
   obtain⟨j,h3,rfl,h4⟩:=hσ t b' ht
   rw[hinj i j b' h1 h3 h2 h4]
  ·obtain⟨i,h1,h2,h3⟩:=hσ s b' hs
   exact hκb i b' h1 h3 o
  ·obtain⟨i,h1,h2,h3⟩:=hσ s b' hs
   exact⟨i,h1,h3⟩
  ·obtain⟨i,h1,h2,h3⟩:=hσ s b' hs
   exact⟨i,h1,h3⟩
  ·obtain⟨h1,u,h2,h3⟩:=hglob g l hg
   exact⟨h1,u,h2.pure (fun _ _ _ h=>h) (Z.globPure g l hg),h3⟩
 refine wpIn_mono (h w κ _ sv κ sv _ w hsim) ?_
 rintro e a' w' ⟨κ',sv',S',hs,hq'⟩
 cases e<;>first|exact hq'.elim|skip
 all_goals
  obtain⟨S2,ds,hw,hbx,hd,hcv⟩:=hq'
  obtain⟨κ2,sv2,hs⟩:=hw _ _ _ _ hs
  obtain⟨Ds,d1,d2,d3,_⟩:=hs.defers
  show LeavesInM _ _ _ _ _ _ a'.defers _ _
  rw[d1]
  refine iS rfl Dw hd (fun a w v hs h2=> ?_) Ds a' w' hs d1 d2 d3
  obtain⟨M,h1,_⟩:=hs.wld.frame
  have hpin:∀i,i<n→sv2 (q i)=sv (q i):=fun i hi=>hs.wld.le.vals (q i) (show gM q n (q i)=S2.γ (q i) from by rw[wN hi,(hbx i hi).1])
  refine⟨v,rfl,(hcv _ _ _ _ h2).pure (j0 hs.wld) hR,fun i hi=> ?_,h1.1⟩
  obtain⟨hγ,_,hconv⟩:=hbx i hi
  exact(ht' i hi).owns (j0 hs.wld) (fun j hj=>(hbx j hj).1) (fun j hj=>wN hj) (fun j hj=>hpin j hj) (hpin i hi) (fun _ _ _ _ _ _ _=>Nat.zero_le _) (hconv _ _ _ _ _ _ (hs.wld.own (q i)))
section
variable {X:Ctx} {Q:Exit→St→Prop} {S:St} {ops:Array Oper} {o:Oper} {rest:List Oper}
theorem Jz{f:FuncId}{x:Operand}{xs:Array Operand}{ts:Array TypeId}{n:Nat}{q ps:Nat→Nat}{os os' :Nat→Own}{c A:List D}{R:D}(hinj:∀i j,i<n→j<n→ps i=ps j→i=j)(hq:∀i j,i<n→j<n→q i=q j→i=j)(hg:o.guard=none)(ho:o.op= .call {callee:= .value x,args:=xs,argTypes:=ts})
 (hx:S.ev X x= .fn f c)(hbox:∀i,i<n→nk n ps (fun j=>S.γ (ps j)) q one (S.σ (ps i)) (os i))(hA:vW n ps (fun j=>S.γ (ps j)) q one (xs.toList.map (S.ev X)++c) A)
 (hc:lV X.Z f n q os os' A R){t:Nat}(hd:o.dst=some t){σ' :Nat→Own}(hσ1:∀s,(∀i,i<n→ps i≠s)→σ' s=S.σ s)(hσ2:∀i,i<n→nk n q one ps (fun j=>S.γ (ps j)) (os' i) (σ' (ps i)))
 (hk:WL X ops rest Q ⟨bN S.ρ t R,S.γ,σ'⟩):WL X ops (o::rest) Q S:=fun κ sv a w hs=>by
 obtain⟨lb,hl1,hl2⟩:=Jq hs hx
 have hrun:=sW (w:=w) hc.body ho hl1
 have hr:=(dZ hs xs.toList).append hl2
 --the caller's values,told by the callee's places
 let svq:Nat→Value:=fun s=>if h:∃i,i<n∧q i=s then sv (ps h.choose)else Go.undef
 have hsvq:∀i,i<n→svq (q i)=sv (ps i):=fun i hi=>by
  have h:∃j,j<n∧q j=q i:=⟨i,hi,rfl⟩
  show(if h:∃j,j<n∧q j=q i then sv (ps h.choose)else Go.undef)=_
  rw[dif_pos h,hq _ _ h.choose_spec.1 hi h.choose_spec.2]
 have hbl:∀i,i<n→∀v,cx (os i) v=cx (S.σ (ps i)) v:=fun i hi v=>(hbox i hi).cx v
 have hcall:=hc.calls w κ svq _ (fun i j b hi hj h1 h2=>by
  rw[hsvq i hi,hbl i hi]at h1
  rw[hsvq j hj,hbl j hj]at h2
  exact hinj i j hi hj (hs.wld.inj _ _ b h1 h2)) (dh.fits hs.wld) (fun i b hi h1 o=>by
  rw[hsvq i hi,hbl i hi]at h1
  exact hs.wld.sep _ _ o h1) (dh.fS hs.wld) (fun i hi=>(hbox i hi).owns (fun _ _ _ h=>h) (fun _ _=>rfl) (fun j hj=>wN hj) (fun j hj=>(hsvq j hj).symm) (hsvq i hi).symm (fun _ _ _ _ _ _ _=>Nat.zero_le _) (hs.wld.own (ps i)))
  (hA.rep (fun _ _ _ h=>h) (fun _ _=>rfl) (fun j hj=>wN hj) (fun j hj=>(hsvq j hj).symm) hr)
 refine wpListIn_plain hg fun K hK=>eU hrun hcall ?_
 rintro e w' ⟨v,rfl,hv,hnew,hfr⟩
 have hle:Le κ (eC κ w w') S.γ S.γ sv sv:=lX hs.wld.imm w'
 have hne0:∀i,i<n→∀b,cx (os i) (svq (q i))=some b→cx (S.σ (ps i)) (sv (ps i))=some b:=fun i hi b h=>by
  rw[hsvq i hi,hbl i hi]at h;exact h
 have hno:∀s,(∀i,i<n→ps i≠s)→∀b',cx (S.σ s) (sv s)=some b'→w'.heap[b']? =w.heap[b']? :=fun s hns b' hb' =>
  hfr.block b' (cy (hs.wld.own s) hb') (fun i hi e=>hns i hi (hs.wld.inj _ _ b' (hne0 i hi b' e) hb'))
 have hbk:∀s b',cx (σ' s) (sv s)=some b'→cx (S.σ s) (sv s)=some b' :=fun s b' hb' =>by
  by_cases e:∃i,i<n∧ps i=s
  ·obtain⟨i,hi,rfl⟩:=e
   rw[(hσ2 i hi).cx,(hc.kind i hi).cx,hbl i hi]at hb'
   exact hb'
  ·rw[hσ1 s (fun i hi e2=>e ⟨i,hi,e2⟩)]at hb';exact hb'
 have hW:cV X (eC κ w w') sv ⟨S.ρ,S.γ,σ'⟩ w' :=by
  have h0:=hs.wld
  obtain⟨h1,h2,h3,h4,h5,⟨M,h6,h6'⟩,h7,h8,h9,h10,h11,h12,h13,h14⟩:=hs.wld
  refine⟨fun b' o v hk=> ?_,fun s=> ?_,fun s u b' ht hu=>h3 s u b' (hbk s b' ht) (hbk u b' hu),fun s b' o ht=> ?_,fun s b' ht=>h5 s b' (hbk s b' ht),⟨_,X.cl M w w' h6 ⟨hfr.os,hfr.tape,hfr.output,hfr.size,fun k hk hm=>hfr.block k hk (fun i hi e=>hm (h6' _ _ (hne0 i hi k e)))⟩,fun s b' ht=> .inl (h6' s b' (hbk s b' ht))⟩,fun g l hgl=> ?_,fun b' o v hlt hk=> ?_,h9,Nat.le_trans h10 hfr.size,h11.trans hle,fun b' o v hk=> ?_,fun s b' ht=>h13 s b' (hbk s b' ht),fun b h=>Nat.lt_of_lt_of_le (h14 b h) hfr.size⟩
  ·simp only[eC]at hk
   split at hk
   ·rename_i hlt
    have h1' :=h1 b' o v hk
    have hb2:=hfr.block b' hlt (fun i hi e=>by
     have:=h4 (ps i) b' o (hne0 i hi b' e)
     rw[hk]at this;cases this)
    have:w'.cell? ⟨b',o,none⟩=w.cell? ⟨b',o,none⟩:=by simp only[World.cell?,hb2]
    rw[this];exact h1'
   ·exact hk
  ·by_cases e:∃i,i<n∧ps i=s
   ·obtain⟨i,hi,rfl⟩:=e
    have q3:=hσ2 i hi
    refine q3.owns (fun _ _ _ h=>h) (fun j hj=>wN hj) (fun _ _=>rfl) hsvq (hsvq i hi) (fun E z m f b he hb=> ?_) (hnew i hi)
    rw[(hc.kind i hi).cx]at hb
    have hb:=hne0 i hi b hb
    have ho:=h2 (ps i)
    have hk1:=hc.kind i hi
    have hbx:=hbox i hi
    rw[he]at hk1
    generalize os i=o2 at hk1 hbx
    generalize hk2:S.σ (ps i)=o1 at hbx
    rw[hk2]at ho hb
    cases hk1
    cases hbx
    exact KP ho b hb
   ·have hns:∀i,i<n→ps i≠s:=fun i hi e2=>e ⟨i,hi,e2⟩
    show iL _ _ _ _ _ _ (σ' s)
    rw[hσ1 s hns]
    exact dv hle rfl (hno s hns) (h2 s)
  ·have hb' :=hbk s b' ht
   have:=cy (h2 s) hb'
   simp only[eC];rw[if_pos this];exact h4 s b' o hb'
  ·obtain⟨hc2,u,hu,hk⟩:=h7 g l hgl
   exact⟨hc2,u,hu.mono hle,fun j v hj=>hle.cells _ _ _ (hk j v hj)⟩
  ·have:=h10
   simp only[eC]at hk
   rw[if_pos (by omega)]at hk
   exact h8 b' o v hlt hk
  ·simp only[eC]at hk
   split at hk
   ·exact h12 b' o v hk
   ·intro hT;have:=h14 b' hT;omega
 have hdf:sU X.nd X.w0.heap.size a w' :=hs.defers.step fun k o hk ho=>by
  rw[hfr.block k (Array.getElem?_eq_some_iff.1 hk).1 (fun i hi e=>by
   obtain⟨o',q1,q2⟩:=iP (hs.wld.own (ps i)) (hne0 i hi k e)
   rw[hk]at q1;cases q1;rw[ho]at q2;cases q2)]
  exact hk
 have hs' :dh X (eC κ w w') sv ⟨S.ρ,S.γ,σ'⟩ a w' :=⟨hs.size,hdf,fun i hi=>(hs.slot i hi).mono hle,hW⟩
 refine⟨v,rfl, ?_⟩
 rw[hd]
 exact hK _ _ (hk _ sv _ w' (hs'.put (some t) (hv.pure (fun _ _ _ h=>h) hc.pureR)))
end
end Go.Ab
namespace Go.Ab
open Go Go.RowKit
set_option linter.all false
section
variable {X:Ctx} {Q:Exit→St→Prop} {S S' S0:St} {ops:Array Oper} {o:Oper}
def PI(M:List Nat)(m:Nat):Bool:=(List.range m).all fun j=>((M[m]?).getD 0).testBit j
def KR(ops:List Oper)(E:List Ent):Bool:=Mr ops&&DX (tV [] ops) E&&Nat.beq ops.length (E.length+1)&&PI (tV [] ops) E.length
theorem Jt{E:List Ent}{V:List Vl}(hok:KR ops.toList E=true)(hs:∀k,k<E.length→OU X Q ops k (pt S0 E V top k) (HH E k) (mO E k) (uI V k))
 (hQ:∀κ sv a w,dh X κ sv (pt S0 E V top E.length) a w→wpOpIn X.F 0 X.Z.P ops (lift X Q) E.length (lift X Q .normal) a w):RA X Q ops S0:=by
 simp only[KR,Bool.and_eq_true]at hok
 obtain⟨⟨⟨hback,hpairs⟩,hlen⟩,hlast⟩:=hok
 have hlen:ops.size=E.length+1:=by simpa using Nat.eq_of_beq_eq_true hlen
 have back:∀{i:Nat} {o:Oper},ops[i]? =some o→∀j∈sg o,j<i:=by
  intro i o ho j hj
  have h1:=List.all_eq_true.1 hback (o,i) (List.mk_mem_zipIdx_iff_getElem?.2 (by simpa using ho))
  have h2:=List.all_eq_true.1 h1 j hj
  simpa[Nat.blt_eq]using h2
 have ent:∀{i:Nat},i<E.length→∃a,E[i]? =some a:=fun h=>⟨_,List.getElem?_eq_getElem h⟩
 have bits:∀{L:Nat→Bool},wJ ops.toList L→∀(i:Nat) (o:Oper) (b:Nat),ops[i]? =some o→(((tV [] ops.toList)[i]?).getD 0).testBit b=true→(∀j∈sg o,L j=true)→L b=true:=fun hc i o b ho=>
  zl hc ops.toList [] [] (by simp) rfl (by simp) i o b (by simpa using ho)
 have main:∀n (L:Array Bool) (a:Act) (w:World) κ sv,L.size=ops.size→L.toList.count false≤n→wJ ops.toList (fun i=>L.getD i false)→L.getD E.length false=false→
  dh X κ sv (pt S0 E V (fun i=>L.getD i false) E.length) a w→wpAnyIn X.F 0 X.Z.P .any ops (lift X Q) n L a w:=by
  intro n
  have done:∀n (L:Array Bool) (a:Act) (w:World),L.size=ops.size→(∀i,i<ops.size→L.getD i false=true)→lift X Q .normal a w→wpAnyIn X.F 0 X.Z.P .any ops (lift X Q) n L a w:=by
   intro n L a w hsz hall hl
   have hno:∀i,i∉Region.ready .any ops L:=by
    intro i hi
    obtain⟨h1,o,h2,_⟩:=mem_ready.1 hi
    have h3:i<ops.size:=(Array.getElem?_eq_some_iff.1 h2).1
    have:=hall i h3
    have h4:i<L.size:=by omega
    simp[Array.getD,h4]at h1 this
    rw[this]at h1;cases h1
   cases n with
   |zero=>exact⟨List.eq_nil_iff_forall_not_mem.2 hno,hl⟩
   |succ n=>exact⟨fun _=>hl,fun i hi=>absurd hi (hno i)⟩
  have rdy:∀(L:Array Bool),L.size=ops.size→Region.ready .any ops L=[]→∀i,i<ops.size→L.getD i false=true:=by
   intro L hsz hr i
   induction i using Nat.strongRecOn with
   |ind i ih=>
    intro hi
    cases hL:L.getD i false with
    |true=>rfl
    |false=>
     exfalso
     have:i∈Region.ready .any ops L:=by
      refine mem_ready.2 ⟨?_,ops[i],Array.getElem?_eq_getElem hi,fun e he hb=> ?_⟩
      ·have h1:i<L.size:=by omega
       simp[Array.getD,h1]at hL⊢;exact hL
      ·have hj:e.on∈sg ops[i]:=List.mem_map.2 ⟨e,List.mem_filter.2 ⟨by simpa using he,hb⟩,rfl⟩
       have:=back (Array.getElem?_eq_getElem hi) _ hj
       exact ih _ this (by omega)
     rw[hr]at this;cases this
  induction n with
  |zero=>
   intro L a w κ sv hsz hcnt hcl hm hsim
   exfalso
   have h0:L.toList.count false=0:=by omega
   have h2:=List.count_eq_zero.1 h0
   have h1:E.length<L.size:=by omega
   apply h2
   simp[Array.getD,h1]at hm
   rw[←hm];exact List.getElem_mem (by simpa using h1)
  |succ n ih=>
   intro L a w κ sv hsz hcnt hcl hm hsim
   refine⟨fun h0=>(by have:=rdy L hsz h0 E.length (by omega);rw[hm]at this;cases this),fun i hi=> ?_⟩
   obtain⟨h1,o,h2,h3⟩:=mem_ready.1 hi
   have hio:i<ops.size:=(Array.getElem?_eq_some_iff.1 h2).1
   have hiL:i<L.size:=by omega
   have hLi:L.getD i false=false:=by simp[Array.getD,hiL]at h1⊢;exact h1
   have hdir:∀j∈sg o,L.getD j false=true:=by
    intro j hj
    obtain⟨e,he,rfl⟩:=List.mem_map.1 hj
    obtain⟨he1,he2⟩:=List.mem_filter.1 he
    exact h3 e (by simpa using he1) he2
   by_cases him:i=E.length
   ·subst him
    have hall:∀j,j<E.length→L.getD j false=true:=fun j hj=>by
     have hb:(((tV [] ops.toList)[E.length]?).getD 0).testBit j=true:=List.all_eq_true.1 hlast j (List.mem_range.2 hj)
     exact bits hcl E.length o j h2 hb hdir
    have hst:pt S0 E V (fun i=>L.getD i false) E.length=pt S0 E V top E.length:=by
     unfold pt
     rw[val_congr (L' :=top) _ fun j hj=>hall j hj,val_congr (L' :=top) _ fun j hj=>hall j hj,val_congr (L' :=top) _ fun j hj=>hall j hj]
    rw[hst]at hsim
    refine wpOpIn_mono ?_ (hQ κ sv a w hsim)
    intro a' w' hl
    refine done n (L.setIfInBounds E.length true) a' w' (by simp[hsz]) (fun k hk=> ?_) hl
    simp only[Array.getD_eq_getD_getElem?]
    rw[Array.getElem?_setIfInBounds]
    by_cases e:E.length=k
    ·subst e;simp[hiL]
    ·rw[if_neg e]
     have:=hall k (by omega)
     simpa[Array.getD_eq_getD_getElem?]using this
   have hilt:i<E.length:=by omega
   obtain⟨ei,hei⟩:=ent (i:=i) hilt
   --what number i reads is as in the text's order
   have order:∀j,j<E.length→j≠i→∀ej,E[j]? =some ej→yn ei ej=true→(L.getD j false=true↔j<i):=by
    intro j hj hne ej hej hc
    have hp:=mY hpairs hei hej (Ne.symm hne) (by rw[hc];rfl)
    constructor
    ·intro hLj
     refine Nat.lt_of_le_of_ne (Nat.le_of_not_lt fun hlt=> ?_) hne
     rw[if_neg (by omega)]at hp
     obtain⟨oj,hoj⟩:∃oj,ops[j]? =some oj:=⟨_,Array.getElem?_eq_getElem (by omega)⟩
     have:=bits hcl j oj i hoj hp (hcl j oj (by simpa using hoj) hLj)
     rw[hLi]at this;cases this
    ·intro hlt
     rw[if_pos hlt]at hp
     exact bits hcl i o j h2 hp hdir
   have agree:lL (HH E i) (pt S0 E V top i) (pt S0 E V (fun i=>L.getD i false) E.length):=by
    rw[JV hei]
    have hmin:min E.length i=i:=by omega
    have key:∀(j t:Nat),j<E.length→((t∈ei.1.rr∧(mO E j).t=some t)∨(t∈ei.1.rg∧(mO E j).g=some t)∨(t∈ei.1.ro∧(mO E j).o=some t))→(L.getD j false=true↔j<i):=by
     intro j t hj hc
     by_cases e:j=i
     ·subst e;rw[hLi];simp
     ·obtain⟨ej,hej⟩:=ent hj
      rw[sJ hej]at hc
      exact order j hj e ej hej (Bu hc)
    refine⟨fun t ht=> ?_,fun t ht=> ?_,fun t ht=> ?_⟩
    ·have:=qG (w:=fun j=>(mO E j).t) (v:=fun j=>(uI V j).d) (L:=fun i=>L.getD i false) (f0:=S0.ρ) (i:=i) (l:=t) E.length (fun j hj hw=>key j t hj (.inl ⟨ht,hw⟩))
     rw[hmin]at this;exact this
    ·have:=qG (w:=fun j=>(mO E j).g) (v:=fun j=>(uI V j).g) (L:=fun i=>L.getD i false) (f0:=S0.γ) (i:=i) (l:=t) E.length (fun j hj hw=>key j t hj (.inr (.inl ⟨ht,hw⟩)))
     rw[hmin]at this;exact this
    ·have:=qG (w:=fun j=>(mO E j).o) (v:=fun j=>(uI V j).o) (L:=fun i=>L.getD i false) (f0:=S0.σ) (i:=i) (l:=t) E.length (fun j hj hw=>key j t hj (.inr (.inr ⟨ht,hw⟩)))
     rw[hmin]at this;exact this
   refine wpOpIn_mono ?_ (hs i hilt _ agree κ sv a w hsim)
   rintro a' w' ⟨κ',sv',hsim'⟩
   have hLset:(fun k=>(L.setIfInBounds i true).getD k false)=fun k=>bif Nat.beq k i then true else L.getD k false:=by
    funext k
    by_cases e:k=i
    ·subst e;rw[Nat.beq_refl];simp[Array.getD,hiL]
    ·have:Nat.beq k i=false:=by
      cases hb:Nat.beq k i
      ·rfl
      ·exact absurd (Nat.eq_of_beq_eq_true hb) e
     rw[this]
     simp only[Array.getD_eq_getD_getElem?,cond_false]
     rw[Array.getElem?_setIfInBounds,if_neg (fun h=>e h.symm)]
   refine ih (L.setIfInBounds i true) a' w' κ' sv' (by simp[hsz]) ?_ ?_ (by refine(congrFun hLset E.length).trans ?_;have hb:Nat.beq E.length i=false:=(by cases hb:Nat.beq E.length i with|false=>rfl|true=>exact absurd (Nat.eq_of_beq_eq_true hb).symm him);rw[hb];exact hm) ?_
   ·rw[Array.toList_setIfInBounds]
    have hget:L.toList[i]'(by simpa using hiL)=false:=by simp[Array.getD,hiL]at hLi;simpa using hLi
    have hmem:false∈L.toList:=hget▸List.getElem_mem (by simpa using hiL)
    have hpos:=List.count_pos_iff.2 hmem
    rw[List.count_set (by simpa using hiL),hget,if_pos (show(false==false)=true from rfl),if_neg (by decide)]
    omega
   ·intro j oj hoj hLj d hd
    have hcong:∀k,(L.setIfInBounds i true).getD k false=bif Nat.beq k i then true else L.getD k false:=fun k=>congrFun hLset k
    simp only[hcong]at hLj⊢
    by_cases e:d=i
    ·subst e;rw[Nat.beq_refl];rfl
    ·have hb:Nat.beq d i=false:=by
      cases hb:Nat.beq d i
      ·rfl
      ·exact absurd (Nat.eq_of_beq_eq_true hb) e
     rw[hb]
     show L.getD d false=true
     by_cases e2:j=i
     ·subst e2
      have:ops[j]? =some oj:=by simpa using hoj
      rw[h2]at this
      cases this
      exact hdir d hd
     ·have hb2:Nat.beq j i=false:=by
       cases hb:Nat.beq j i
       ·rfl
       ·exact absurd (Nat.eq_of_beq_eq_true hb) e2
      rw[hb2]at hLj
      exact hcl j oj hoj hLj d hd
   ·rw[hLset]
    have hww:∀j,i<j→j<E.length→L.getD j false=true→∀ej,E[j]? =some ej→lk ei ej=false:=by
     intro j hij hj hLj ej hej
     cases hc:lk ei ej with
     |false=>rfl
     |true=>
      exfalso
      have hp:=mY hpairs hei hej (by omega) (by rw[hc];simp)
      rw[if_neg (by omega)]at hp
      obtain⟨oj,hoj⟩:∃oj,ops[j]? =some oj:=⟨_,Array.getElem?_eq_getElem (by omega)⟩
      have:=bits hcl j oj i hoj hp (hcl j oj (by simpa using hoj) hLj)
      rw[hLi]at this;cases this
    have kw:∀(f:Wr→Option Nat) j,i<j→j<E.length→L.getD j false=true→(∀a b:Ent,f a.2=f b.2→f a.2≠none→lk a b=true)→f (mO E i)≠f (mO E j)∨f (mO E i)=none:=by
     intro f j h1 h2 h3 h4
     obtain⟨ej,hej⟩:=ent h2
     have:=hww j h1 h2 h3 ej hej
     rw[sJ hei,sJ hej]
     by_cases e:f ei.2=none
     ·exact .inr e
     ·refine .inl fun e2=> ?_
      rw[h4 ei ej e2 e]at this;cases this
    have:pt S0 E V (fun k=>bif Nat.beq k i then true else L.getD k false) E.length=(pt S0 E V (fun i=>L.getD i false) E.length).app (mO E i) (uI V i):=by
     unfold pt St.app
     simp only
     rw[val_add (L:=fun i=>L.getD i false) hLi E.length (by omega) fun j a b c=>kw Wr.t j a b c fun a b h1 h2=>jW (.inl ⟨h1,h2⟩),
      val_add (L:=fun i=>L.getD i false) hLi E.length (by omega) fun j a b c=>kw Wr.g j a b c fun a b h1 h2=>jW (.inr (.inl ⟨h1,h2⟩)),
      val_add (L:=fun i=>L.getD i false) hLi E.length (by omega) fun j a b c=>kw Wr.o j a b c fun a b h1 h2=>jW (.inr (.inr ⟨h1,h2⟩))]
    rw[this];exact hsim'
 intro κ sv a w hsim
 refine main ops.size (Array.replicate ops.size false) a w κ sv (by simp) (by simp) ?_ (by simp[Array.getD]) ?_
 ·intro i o ho hL
  exfalso
  by_cases h:i<ops.size<;>simp[Array.getD,h]at hL
 ·have:pt S0 E V (fun i=>(Array.replicate ops.size false).getD i false) E.length=S0:=by
   have e:(fun i=>(Array.replicate ops.size false).getD i false)=fun _=>false:=by
    funext i
    by_cases h:i<ops.size<;>simp[Array.getD,h]
   rw[e]
   have k:∀{α:Type} (w:Nat→Option Nat) (v:Nat→α) (f0:Nat→α) n,val w v (fun _=>false) f0 n=f0:=by
    intro α w v f0 n
    induction n with
    |zero=>rfl
    |succ n ih=>simp only[val,ih];rfl
   unfold pt
   rw[k,k,k]
  rw[this];exact hsim
theorem Kr{E:List Ent}{V:List Vl}(hok:KR ops.toList E=true)(hg:o.guard=none)(hk:WL X ops [o] Q S):WG X Q ops S0 E V [o] S:=by
 rintro ⟨pre,hp1,hp2⟩ hl hsnd hst
 have hoi:ops[E.length]? =some o:=by rw[hp1,←hp2];simp
 refine Jt hok hsnd fun κ sv a w hs=> ?_
 rw[hst]at hs
 have h:=hk κ sv a w hs
 unfold wpListIn at h
 unfold wpOpIn
 rw[hoi]
 simp only
 have hw:Region.wanted o (yielded ops a.tmps)=true:=by unfold Region.wanted;rw[hg]
 rw[if_pos hw]at h⊢
 exact Oper.wpIn_mono (fun a' w' h2=>by unfold wpListIn at h2;exact h2) h
end
end Go.Ab
namespace Go.Ab
open Go Go.RowKit
set_option linter.all false
def kZ:List (Int×Int)→Int→Option Int
 |[],_=>none
 |p::l,n=>bif decide (p.1=n)then some p.2 else kZ l n
def BD:List (Int×Int)→Int→Int→List (Int×Int)
 |[],n,v=>[(n,v)]
 |p::l,n,v=>bif decide (p.1=n)then(n,v)::l else p::BD l n v
def Iz(l:List (Int×Int))(n:Int):Int:=(kZ l n).getD 0
def J8(l:List (Int×Int))(n:Int):Bool:=(kZ l n).isSome
def AU:List (Int×Int)→Int→Nat
 |[],_=>0
 |p::l,n=>bif decide (p.1=n)then 0 else AU l n+1
abbrev OP(p:Int×Int):Value×Value:=(Value.int .i64 p.1,Value.int .i64 p.2)
theorem qs:∀{es:List MapEntry} {l:List (Int×Int)},es.map (fun e=>(e.key,e.val))=l.map OP→∀(n:Int) (i:Nat),
 Instr.findNow (.int .i64) (.int .i64 n) es i=some (match kZ l n with|some v=>some (i+AU l n, .int .i64 v)|none=>none)
 |[],[],_,n,i=>rfl
 |[],_::_,h,n,i=>by cases h
 |_::_,[],h,n,i=>by cases h
 |e::es,p::l,h,n,i=>by
  simp only[List.map_cons,List.cons.injEq,Prod.mk.injEq]at h
  obtain⟨⟨h1,h2⟩,h3⟩:=h
  have ih:=qs h3 n (i+1)
  simp only[Instr.findNow,h1,h2,Instr.sameNow,kZ,AU]
  by_cases hp:p.1=n
  ·simp[hp]
  ·have:(n==p.1)=false:=by simpa using fun e=>hp e.symm
   simp only[this,hp,decide_false,cond_false,if_true]
   rw[ih]
   cases kZ l n with
   |none=>rfl
   |some v=>simp;omega
theorem Gh:∀{es:List MapEntry} {l:List (Int×Int)},es.map (fun e=>(e.key,e.val))=l.map OP→∀{n v:Int},kZ l n=some v→∃e,es[AU l n]? =some e∧e.key= .int .i64 n
 |[],[],_,n,v,h=>by cases h
 |[],_::_,h,n,v,_=>by cases h
 |_::_,[],h,n,v,_=>by cases h
 |e::es,p::l,h,n,v,hf=>by
  simp only[List.map_cons,List.cons.injEq,Prod.mk.injEq]at h
  obtain⟨⟨h1,h2⟩,h3⟩:=h
  simp only[kZ,AU]at hf⊢
  by_cases hp:p.1=n
  ·simp only[hp,decide_true,cond_true]
   exact⟨e,by simp,by rw[h1,hp]⟩
  ·simp only[hp,decide_false,cond_false]at hf⊢
   obtain⟨e',q1,q2⟩:=Gh h3 hf
   exact⟨e',by simpa using q1,q2⟩
theorem CU:∀{es:List MapEntry} {l:List (Int×Int)},es.map (fun e=>(e.key,e.val))=l.map OP→∀{n v:Int} (x:Int),kZ l n=some v→
 (es.modify (AU l n) fun e=>{e with key:= .int .i64 n,val:= .int .i64 x}).map (fun e=>(e.key,e.val))=(BD l n x).map OP
 |[],[],_,n,v,x,h=>by cases h
 |[],_::_,h,n,v,x,_=>by cases h
 |_::_,[],h,n,v,x,_=>by cases h
 |e::es,p::l,h,n,v,x,hf=>by
  have h' :=h
  simp only[List.map_cons,List.cons.injEq,Prod.mk.injEq]at h
  obtain⟨⟨h1,h2⟩,h3⟩:=h
  simp only[kZ,AU,BD]at hf⊢
  by_cases hp:p.1=n
  ·simp only[hp,decide_true,cond_true,List.modify_zero_cons,List.map_cons]
   rw[h3]
  ·simp only[hp,decide_false,cond_false,List.modify_succ_cons,List.map_cons]at hf⊢
   rw[CU h3 x hf,h1,h2]
theorem yB:∀{es:List MapEntry} {l:List (Int×Int)},es.map (fun e=>(e.key,e.val))=l.map OP→∀{n x:Int} (b:Nat),kZ l n=none→
 (es++[({key:= .int .i64 n,val:= .int .i64 x,born:=b}:MapEntry)]).map (fun e:MapEntry=>(e.key,e.val))=(BD l n x).map OP
 |[],[],_,n,x,b,_=>rfl
 |[],_::_,h,n,x,b,_=>by cases h
 |_::_,[],h,n,x,b,_=>by cases h
 |e::es,p::l,h,n,x,b,hf=>by
  simp only[List.map_cons,List.cons.injEq,Prod.mk.injEq]at h
  obtain⟨⟨h1,h2⟩,h3⟩:=h
  simp only[kZ,BD]at hf⊢
  by_cases hp:p.1=n
  ·simp only[hp,decide_true,cond_true]at hf;cases hf
  ·simp only[hp,decide_false,cond_false,List.cons_append,List.map_cons]at hf⊢
   rw[yB h3 b hf,h1,h2]
structure zo (P:Program) (t:TypeId):Prop where
 ty:∃k e i,P.underlying t=some (.map k e)∧P.underlying k=some (.int .i64)∧P.info? e=some i∧i.zero=some (.int .i64 0)
section
variable {P:Program} {w:World} {t:TypeId} {b:Nat} {es:Array MapEntry} {c:Nat} {l:List (Int×Int)}
theorem BF(ht:zo P t)(hb:w.heap[b]? =some (.map es c))(hm:uo es l)(n:Int):(Instr.lookup t (.map (some b)) (.int .i64 n) true).run P w= .ok (.tuple #[.int .i64 (Iz l n), .bool (J8 l n)]) w:=by
 obtain⟨k,e,i,h1,h2,h3,h4⟩:=ht
 have hk:MapKept.IsKey (.int .i64) (.int .i64 n):=rfl
 have hf:=qs (es:=es.toList) (l:=l) hm n 0
 cases hq:kZ l n with
 |none=>
  rw[hq]at hf
  simp[Instr.lookup,run_underlying h1,MapKept.run_getObj_map hb,MapKept.run_checkKey h2 hk,MapKept.run_findKey h2 hf,Result.andThen,zeroValue,typeInfo,h3,h4,Iz,J8,hq]
 |some v=>
  rw[hq]at hf
  simp[Instr.lookup,run_underlying h1,MapKept.run_getObj_map hb,MapKept.run_checkKey h2 hk,MapKept.run_findKey h2 hf,Result.andThen,Iz,J8,hq]
theorem B0(ht:zo P t)(hb:w.heap[b]? =some (.map es c))(hm:uo es l)(n x:Int):∃es' c',(Instr.mapUpdate t (.map (some b)) (.int .i64 n) (.int .i64 x)).run P w= .ok () {w with heap:=w.heap.setIfInBounds b (.map es' c')}∧uo es' (BD l n x):=by
 obtain⟨k,e,i,h1,h2,h3,h4⟩:=ht
 have hk:MapKept.IsKey (.int .i64) (.int .i64 n):=rfl
 have hf:=qs (es:=es.toList) (l:=l) hm n 0
 cases hq:kZ l n with
 |none=>
  rw[hq]at hf
  refine⟨es.push {key:= .int .i64 n,val:= .int .i64 x,born:=c},c+1, ?_, ?_⟩
  ·simp[Instr.mapUpdate,run_underlying h1,MapKept.run_getObj_map hb,MapKept.run_checkKey h2 hk,MapKept.run_findKey h2 hf,Result.andThen,MapKept.run_setObj_map _ hb]
  ·have:=yB (es:=es.toList) (l:=l) hm (x:=x) c hq
   unfold uo
   rw[Array.toList_push];exact this
 |some v=>
  rw[hq]at hf
  obtain⟨e0,q1,q2⟩:=Gh (es:=es.toList) (l:=l) hm hq
  have hj:es[AU l n]? =some e0:=by simpa using q1
  refine⟨es.modify (AU l n) fun e=>{e with key:= .int .i64 n,val:= .int .i64 x},c, ?_, ?_⟩
  ·simp[Instr.mapUpdate,run_underlying h1,MapKept.run_getObj_map hb,MapKept.run_checkKey h2 hk,MapKept.run_findKey h2 hf,hj,q2,MapKept.run_keyThatStays hk,Result.andThen,MapKept.run_setObj_map _ hb]
  ·have:=CU (es:=es.toList) (l:=l) hm x hq
   unfold uo
   rw[Array.toList_modify];exact this
end
section
variable {X:Ctx} {S:St} {o:Oper}
theorem Gm{κ:Nat→Nat→Option Value}{sv:Nat→Value}{a:Act}{w:World}(hs:dh X κ sv S a w){x:Operand}{s g:Nat}{l:List (Int×Int)}(hx:S.ev X x= .os s g)(hγ:S.γ s=g)(hσ:S.σ s= .mp l):
 ∃b es c,a.eval x= .map (some b)∧sv s= .map (some b)∧w.heap[b]? =some (.map es c)∧uo es l:=by
 have h1:=hs.ev x
 rw[hx]at h1
 have h2:=hs.wld.own s
 rw[hσ]at h2
 obtain⟨b,es,c,e1,e2,e3⟩:=h2
 generalize a.eval x=v at h1
 cases h1 with
 |os _ _ _ _ hh _=>exact⟨b,es,c,by rw[hh hγ.symm,e1],e1,e2,e3⟩
theorem HL{T:TypeId}{x y:Operand}{s g:Nat}{l:List (Int×Int)}{n:Int}(ht:zo X.Z.P T)(ho:o.op= .lookup T x y true)(hx:S.ev X x= .os s g)(hγ:S.γ s=g)(hσ:S.σ s= .mp l)(hy:S.ev X y= .int .i64 n):
 eh X o S (.tup [.int .i64 (Iz l n), .bool (J8 l n)]):=fun κ sv a w hs=>by
 obtain⟨b,es,c,h1,h2,h3,h4⟩:=Gm hs hx hγ hσ
 have hyv:=hs.ev y
 rw[hy]at hyv
 generalize hye:a.eval y=v at hyv
 cases hyv
 refine⟨_, .tup _ _ (.cons _ _ _ _ (.int _ _) (.cons _ _ _ _ (.bool _) .nil)),fun w' hb=> ?_⟩
 have hb' :w'.heap[b]? =some (.map es c):=by rw[hb.block b (Array.getElem?_eq_some_iff.1 h3).1];exact h3
 simp[execOp,ho,h1,hye,BF ht hb' h4]
theorem BA{T:TypeId}{x y z:Operand}{s g:Nat}{l:List (Int×Int)}{n v:Int}(ht:zo X.Z.P T)(ho:o.op= .mapUpdate T x y z∨o.op= .insert T x y z)(hd:o.dst=none)(hx:S.ev X x= .os s g)(hγ:S.γ s=g)(hσ:S.σ s= .mp l)(hy:S.ev X y= .int .i64 n)(hz:S.ev X z= .int .i64 v):
 kL X o S ⟨S.ρ,S.γ,bN S.σ s (.mp (BD l n v))⟩:=fun κ sv a w hs=>by
 obtain⟨b,es,c,h1,h2,h3,h4⟩:=Gm hs hx hγ hσ
 have hyv:=hs.ev y
 rw[hy]at hyv
 generalize hye:a.eval y=yv at hyv
 cases hyv
 have hzv:=hs.ev z
 rw[hz]at hzv
 generalize hze:a.eval z=zv at hzv
 cases hzv
 obtain⟨es',c',r1,r2⟩:=B0 ht h3 h4 n v
 have hgr:w.grownBy {w with heap:=w.heap.setIfInBounds b (.map es' c')} (some b):=by
  refine⟨rfl,rfl,rfl,by simp,fun k hk hne=> ?_⟩
  have:k≠b:=fun e=>hne (by rw[e])
  exact(MapKept.heap_set h3).2 k this
 have hblk:cx (S.σ s) (sv s)=some b:=by rw[hσ,h2];rfl
 rw[hd]
 refine⟨Go.undef,_,κ,sv, .inr ⟨?_,rfl⟩,⟨hs.size,iJ hs s (by rw[hblk];exact hgr),hs.slot, ?_⟩⟩
 ·rcases ho with ho|ho<;>simp[execOp,ho,h1,hye,hze,r1,Result.andThen]
 ·refine hs.wld.rewrite s (.mp _) (by rw[hblk];exact hgr) (by rw[hσ,h2];rfl) ⟨b,es',c',h2,(MapKept.heap_set h3).1,r2⟩ _
theorem lP{P:Program}{w:World}{T e:TypeId}(hu:P.underlying T=some (.slice e))(a:Option Addr)(n c:Nat):(binOp .eql T (.slice a n c) (.slice none 0 0)).run P w= .ok (.bool a.isNone) w:=by
 have h:(Op.equal T (.slice a n c) (.slice none 0 0)).run P w= .ok a.isNone w:=by
  unfold Op.equal
  have:Op.maxDepth=9999+1:=rfl
  rw[this]
  unfold Op.equalIn
  simp only[Sem.run_bind,run_underlying hu,Result.andThen_ok]
  cases a<;>rfl
 have h2:binOp .eql T (.slice a n c) (.slice none 0 0)=(do pure (.bool (←Op.equal T (.slice a n c) (.slice none 0 0)))):=rfl
 rw[h2]
 simp[h]
theorem H9{Q:Exit→St→Prop}{ops:Array Oper}{rest:List Oper}{T T2:TypeId}{x y:Operand}{t:Nat}{z n:Nat}{f:Nat→List D}{r:TRow}(hg:o.guard=none)(ho:o.op= .binOp .eql T x y T2)(hd:o.dst=some t)(hr:nth X.Z.dS T=some r)(hk:Nat.beq r.k 3=true)(hx:S.ev X x= .sl z n f)(hy:S.ev X y= .nil)
 (ht:n=0→WL X ops rest Q (S.set t (.bool true)))(hf:WL X ops rest Q (S.set t (.bool false))):WL X ops (o::rest) Q S:=fun κ sv a w hs=>by
 have hu:=cW (X.Z.tabOk _ _ hr (by intro e;rw[e]at hk;cases hk)) hk
 have h1:=hs.ev x
 rw[hx]at h1
 have h2:=hs.ev y
 rw[hy]at h2
 generalize hxe:a.eval x=xv at h1
 generalize hye:a.eval y=yv at h2
 cases h2
 cases h1 with
 |sl _ _ _ b off cap u q1 q2 q3 q4 q5=>
  refine wpListIn_plain hg fun K hK=>mQ (v:= .bool false) (w' :=w) ?_ ?_
  ·simp[execOp,ho,hxe,hye,eqGuard,lP hu]
  ·rw[hd];exact hK _ _ (hf κ sv _ _ (hs.put (some t) (.bool _)))
 |sl0=>
  refine wpListIn_plain hg fun K hK=>mQ (v:= .bool true) (w' :=w) ?_ ?_
  ·simp[execOp,ho,hxe,hye,eqGuard,lP hu]
  ·rw[hd];exact hK _ _ (ht rfl κ sv _ _ (hs.put (some t) (.bool _)))
 |slE _ _ ad cap=>
  refine wpListIn_plain hg fun K hK=>mQ (v:= .bool false) (w' :=w) ?_ ?_
  ·simp[execOp,ho,hxe,hye,eqGuard,lP hu]
  ·rw[hd];exact hK _ _ (hf κ sv _ _ (hs.put (some t) (.bool _)))
theorem Hr{T:TypeId}{t:Nat}(ho:o.op= .makeMap T none)(hd:o.dst=some t):kL X o S ⟨bN S.ρ t (.os t (S.γ t+1)),bN S.γ t (S.γ t+1),bN S.σ t (.mp [])⟩:=fun κ sv a w hs=>by
 have hle:=dO κ S.γ sv t (.map (some w.heap.size))
 rw[hd]
 refine⟨.map (some w.heap.size),w.alloc (.map #[] 0),κ,bN sv t (.map (some w.heap.size)), .inl ?_, ?_⟩
 ·simp[execOp,ho,run_makeMap]
 ·refine⟨by rw[qW];exact hs.size,(iJ hs t (World.grownBy_alloc w _ _)).put _ _, ?_, ?_⟩
  ·exact hs.AA hle (some t) (.os _ _ _ (by rw[aj];exact Nat.le_refl _) (fun _=>(aj _ _ _).symm) rfl)
  ·refine hs.wld.renew t (.mp []) _ (World.grownBy_alloc w _ _) (fun b hb=> ?_) ⟨w.heap.size, #[],0,aj _ _ _,(MapKept.heap_alloc w _).1,rfl⟩ _
   simp only[cx,Option.some.injEq]at hb
   exact .inl (by omega)
end
section
variable {F:Fence} {n:Nat} {P:Program} {Q:Exit→Act→World→Prop} {a:Act} {w:World} {b:Go.Frame} {k:List Item} {cs:List Go.Frame}
theorem g7{c:Code}:step P (lone (b.atR a (.code (.scope c)::k)) cs w)= .next (lone (b.atR a (.code c:: .inScope c::k)) cs w):=
 step_lone_go (by simp[stepG,stepG.exec,Frame.atR])
theorem xG{c:Code}:step P (lone (b.atR a (.inScope c::k)) cs w)= .next (lone (b.atR a k) cs w):=
 step_lone_go (by simp[stepG,stepG.exec,Frame.atR])
theorem EH{c:Code}(h:c.wpIn F n P (Exit.noGoto Q) a w):(Code.scope c).wpIn F n P Q a w:=by
 intro b k cs hro hb hr
 have h0:(lone (b.atR a (.code (.scope c)::k)) cs w).fenced P F:=fenced_calm hb hr rfl
 obtain⟨e,a₁,w₁,hq,harr⟩:=h b (.inScope c::k) cs hro hb hr
 cases e with
 |normal=>exact⟨.normal,a₁,w₁,hq, .head h0 g7 (StepsIn.trans harr (.one (fenced_calm hb hr rfl) xG))⟩
 |exit id=>
  have hx:exitTo id (.inScope c::k)=exitTo id k:=by simp[exitTo]
  exact⟨.exit id,a₁,w₁,hq,fun k' hk=> .head h0 g7 (harr.1 k' (by rw[hx];exact hk)),
   fun hr' hk=>let⟨k₁,h1,h2⟩:=harr.2 hr' (by rw[hx];exact hk);⟨k₁,h1, .head h0 g7 h2⟩⟩
 |goto l=>exact hq.elim
 |ret=>exact⟨_,a₁,w₁,hq, .of_steps (.one h0 g7) harr⟩
 |panic ch=>exact⟨_,a₁,w₁,hq, .of_steps (.one h0 g7) harr⟩
 |outgrown=>exact⟨_,a₁,w₁,hq, .of_steps (.one h0 g7) harr⟩
end
theorem K7{X:Ctx}{Q:Exit→St→Prop}{S:St}{c:Code}(h:W X c (fun e T=>match e with| .goto _=>False|e=>Q e T) S):W X (.scope c) Q S:=fun κ sv a w hs=>by
 refine EH (wpIn_mono (h κ sv a w hs) ?_)
 rintro e a' w' ⟨κ',sv',S',h1,h2⟩
 cases e<;>first|exact h2.elim|exact⟨κ',sv',S',h1,h2⟩
theorem Lx{X:Ctx}{Q:Exit→St→Prop}{S:St}{l:Nat}(h:Q .normal S):W X (.label l) Q S:=fun κ sv _ _ hs=>wpIn_label ⟨κ,sv,S,hs,h⟩
end Go.Ab
