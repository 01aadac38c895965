/- Walks by computing: what each function of the program that the laws reach gives for what it gets, as plain Lean, and that it is so; without a condition but those that stand in each theorem. -/
import Derived.Test.YtafnhieaeejlcaaDoorW1
import Derived.Test.YtafnhieaeejlcaaDoorW2
set_option linter.all false
namespace Go.Ab
open Go Go.RowKit
set_option linter.all false
inductive IOwn where
 |none
 |box (l:List I)
 |arr (E:TypeId) (t:T) (l:List (den t))
 |arrp (E:TypeId) (t:T) (l:List (den t)) (i:Nat) (row:List I)
 |mp (l:List (Int×Int))
def IOwn.bq(h:Nat→Nat):IOwn→Own
 | .none=> .none
 | .box l=> .box (I.ao h l)
 | .arr E t l=> .arr E (sz t) l.length (fun i=>dk t (l.getD i (dD t)))
 | .arrp E t l i row=> .arr E (sz t) l.length (oP (fun i=>dk t (l.getD i (dD t))) i (I.ao h row))
 | .mp l=> .mp l
structure IS where
 rs:List (Nat×I)
 gs:List (Nat×Nat)
 os:List (Nat×IOwn)
def IS.get(S:IS)(t:Nat):I:=look .undef S.rs t
def IS.gen(S:IS)(s:Nat):Nat:=look 0 S.gs s
def IS.own(S:IS)(s:Nat):IOwn:=look .none S.os s
def IS.aJ(h:Nat→Nat)(S:IS):St:=⟨fun t=>(S.get t).bV h,fun s=>h s+S.gen s,fun s=>(S.own s).bq h⟩
structure ISeat extends Seat where
 gI:Nat→Option (List I)
 gI_ok:∀g h,toSeat.glob g=(gI g).map (I.ao h)
 ty:Nat→Option T
 ty_ok:∀E t q,ty E=some t→nth toSeat.dS E=some q→Nat.beq q.k 9=false∧q.sz=sz t∧q.zs.length=sz t
 ik:Nat→Option IntKind
 ik_ok:∀t k,ik t=some k→toSeat.P.underlying t=some (.int k)
 isB:Nat→Bool
 isB_ok:∀t,isB t=true→toSeat.P.underlying t=some .bool
 isF:Nat→Bool
 isF_ok:∀t,isF t=true→∃d,toSeat.P.underlying t=some d∧mo toSeat.P t=false
 isS:Nat→Bool
 isS_ok:∀t,isS t=true→toSeat.P.underlying t=some .string
 isM:Nat→Bool
 isM_ok:∀t,isM t=true→zH toSeat.P t
def NI:Value→I
 | .int k n=> .int k n
 | .bool b=> .bool b
 | .string s=> .str s
 | .slice none 0 0=> .nil
 |_=> .undef
def Nq:Value→I
 | .agg cs=> .agg (cs.toList.map NI)
 |v=>NI v
def IS.ev(Z:ISeat)(nt:Nat)(S:IS):Operand→I
 | .tmp t=>bif Nat.blt t nt then S.get t else .undef
 | .const v=>Nq v
 | .global g=>match Z.gI g with|some l=> .rp l 0|none=> .undef
 | .func f=> .fn f []
theorem dO(h:Nat→Nat):∀l:List I,I.ao h l=l.map (I.bV h)
 |[]=>rfl
 |d::l=>by simp only[I.ao,List.map_cons,dO h l]
theorem Fi(h:Nat→Nat)(v:Value):(NI v).bV h=O2 v:=by
 cases v<;>try rfl
 rename_i a n c
 cases a<;>cases n<;>cases c<;>rfl
theorem Lg(h:Nat→Nat)(v:Value):(Nq v).bV h=Ps v:=by
 cases hv:v with
 |agg cs=>
  simp only[Nq,Ps,I.bV,dO,List.map_map]
  congr 1
  exact List.map_congr_left fun x _=>Fi h x
 |_=>(try rfl)<;>(rw[←hv];have:=Fi h v;rw[hv]at this⊢;exact this)
structure Ef where
 t:Option Nat
 d:I
 g:Option (Nat×Nat)
 o:Option (Nat×IOwn)
def Ef.wr(e:Ef):Wr:=⟨e.t,e.g.map (·.1),e.o.map (·.1)⟩
def Ef.vl(h:Nat→Nat)(e:Ef):Vl:=⟨e.d.bV h,match e.g with|some p=>h p.1+p.2|none=>0,match e.o with|some p=>p.2.bq h|none=> .none⟩
def IS.lJ(S:IS)(e:Ef):IS:=
 ⟨match e.t with|some t=>(t,e.d)::S.rs|none=>S.rs,match e.g with|some p=>p::S.gs|none=>S.gs,match e.o with|some p=>p::S.os|none=>S.os⟩
theorem pk{α β:Type}(f:α→β)(e:α)(i:Nat)(a:α)(l:List (Nat×α)):(fun j=>f (look e ((i,a)::l) j))=bM (fun j=>f (look e l j)) i (f a):=by
 funext j
 simp only[look,bM]
 cases Nat.beq j i<;>rfl
theorem fD(h:Nat→Nat)(S:IS)(e:Ef):(S.lJ e).aJ h=(S.aJ h).app e.wr (e.vl h):=by
 obtain⟨t,d,g,o⟩:=e
 unfold IS.aJ St.app IS.lJ Ef.wr Ef.vl
 congr 1
 ·cases t with
  |none=>rfl
  |some t=>exact pk (I.bV h) .undef t d S.rs
 ·cases g with
  |none=>rfl
  |some p=>
   funext j
   simp only[IS.gen,look,Option.map_some,qZ,bM]
   cases hb:Nat.beq j p.1 with
   |false=>rfl
   |true=>have:=Nat.eq_of_beq_eq_true hb;subst this;rfl
 ·cases o with
  |none=>rfl
  |some p=>exact pk (IOwn.bq h) .none p.1 p.2 S.os
mutual
def nA:I→List Nat
 | .bx s _ _=>[s]
 | .os s _=>[s]
 | .op s _ _ _ _=>[s]
 | .ow s _ _ _ _=>[s]
 | .agg l=>fw l
 | .tup l=>fw l
 | .fn _ l=>fw l
 | .mf _ l=>fw l
 |_=>[]
def fw:List I→List Nat
 |[]=>[]
 |d::l=>nA d++fw l
end
mutual
theorem A2(h:Nat→Nat):∀d:I,xx (d.bV h)=nA d
 | .int _ _=>rfl| .bool _=>rfl| .str _=>rfl| .sl _ _=>rfl| .nsl _ l=>(by cases l<;>rfl)| .nil=>rfl| .rp _ _=>rfl| .bx _ _ _=>rfl| .os _ _=>rfl| .op _ _ _ _ _=>rfl| .ow _ _ _ _ _=>rfl| .yl _=>rfl| .one=>rfl| .undef=>rfl
 | .agg l=>rG h l
 | .tup l=>rG h l
 | .fn _ l=>rG h l
 | .mf _ l=>rG h l
theorem rG(h:Nat→Nat):∀l:List I,CG (I.ao h l)=fw l
 |[]=>rfl
 |d::l=>by simp only[I.ao,CG,fw,A2 h d,rG h l]
end
def wi(Z:ISeat)(nt:Nat)(S:IS):List Operand→List Nat
 |[]=>[]
 |x::l=>nA (S.ev Z nt x)++wi Z nt S l
def Pf(Z:ISeat)(nt:Nat)(S:IS)(o:Oper):Lc:=
 ⟨slotsOf o.op.operands.toList,(match lvl o with|0=>[]|_=>wi Z nt S o.op.operands.toList),(match lvl o with|0=>[]|1=>[]|_=>wi Z nt S o.op.operands.toList)⟩
def xA(X:Ctx)(o:Oper)(T T' :St):Prop:=∀κ sv a w,dh X κ sv T a w→∀K Qw,(∀κ' sv' a' w',dh X κ' sv' T' a' w'→K a' w')→o.wpIn X.F 0 X.Z.P a w K Qw
abbrev x7(X:Ctx):Prop:=∀p,X.xa p=true→XB≤p
structure At (X:Ctx) (Z:ISeat) (nt:Nat):Prop where
 Z:X.Z=Z.toSeat
 nt:X.nt=nt
 xa:∀p,X.xa p=true→XB≤p
theorem At.pl{X:Ctx}{Z:ISeat}{nt:Nat}(h1:X.Z=Z.toSeat)(h2:X.nt=nt)(h3:∀p,X.xa p=false):At X Z nt:=⟨h1,h2,fun p h=>by rw[h3 p]at h;cases h⟩
section
variable {X:Ctx} {Z:ISeat} {nt:Nat} {S:IS} {o:Oper} {h:Nat→Nat} {T:St}
theorem dI(hX:At X Z nt)(x:Operand):(S.aJ h).ev X x=(S.ev Z nt x).bV h:=by
 cases x with
 |tmp t=>
  simp only[St.ev,IS.ev,hX.nt]
  cases Nat.blt t nt<;>rfl
 |const v=>exact(Lg h v).symm
 |func f=>rfl
 |global g=>
  simp only[St.ev,IS.ev,hX.Z]
  rw[Z.gI_ok g h]
  cases Z.gI g<;>rfl
theorem Bi(hX:At X Z nt):∀l:List Operand,Gy X (S.aJ h) l=wi Z nt S l
 |[]=>rfl
 |x::l=>by simp only[Gy,wi,dI hX,A2,Bi hX l]
theorem LH(hX:At X Z nt):mV X (S.aJ h) o=Pf Z nt S o:=by
 simp only[mV,Pf,Bi hX]
 cases lvl o with
 |zero=>rfl
 |succ n=>cases n<;>rfl
structure Ag (X:Ctx) (Z:ISeat) (nt:Nat) (S:IS) (h:Nat→Nat) (T:St) (o:Oper):Prop where
 at' :At X Z nt
 agr:mw (mV X (S.aJ h) o) (S.aJ h) T
theorem Ag.ev(ha:Ag X Z nt S h T o){x:Operand}(hx:x∈o.op.operands.toList){d:I}(hd:S.ev Z nt x=d):T.ev X x=d.bV h:=by
 rw[js ha.agr hx,dI ha.at',hd]
theorem Ag.γ(ha:Ag X Z nt S h T o)(hl:lvl o≠0){x:Operand}(hx:x∈o.op.operands.toList){s:Nat}(hs:s∈nA (S.ev Z nt x)):T.γ s=h s+S.gen s:=
 sy ha.agr hl hx (by rw[dI ha.at',A2];exact hs)
theorem Ag.σ(ha:Ag X Z nt S h T o)(hl:lvl o=2){x:Operand}(hx:x∈o.op.operands.toList){s:Nat}(hs:s∈nA (S.ev Z nt x)):T.σ s=(S.own s).bq h:=
 rU ha.agr hl hx (by rw[dI ha.at',A2];exact hs)
theorem Ag.self(hX:At X Z nt):Ag X Z nt S h (S.aJ h) o:=⟨hX,⟨fun _ _=>rfl,fun _ _=>rfl,fun _ _=>rfl⟩⟩
def eS(X:Ctx)(Z:ISeat)(nt:Nat)(o:Oper)(S:IS)(e:Ef):Prop:=∀h T,Ag X Z nt S h T o→(∀p,e.g=some p→T.γ p.1=h p.1+S.gen p.1)→xA X o T (T.app e.wr (e.vl h))
theorem NA{d:D}{t:Nat}{g:Nat}{ow:Own}(hd:o.dst=some t)(hq:eu X o T d):xA X o T (T.app ⟨some t,none,none⟩ ⟨d,g,ow⟩):=fun κ sv a w hs K Qw hK=>by
 obtain⟨v,h1,h2⟩:=hq κ sv a w hs
 refine mR (h2 w (Below.refl _ _)) ?_
 rw[hd]
 exact hK κ sv _ _ (hs.put (some t) h1)
theorem fm{T' :St}(hn:kX X o T T'):xA X o T T' :=fun κ sv a w hs K Qw hK=>by
 obtain⟨v,w',κ',sv',h1,h2⟩:=hn κ sv a w hs
 rcases h1 with h1|⟨h1,rfl⟩
 ·exact mR h1 (hK κ' sv' _ _ h2)
 ·exact AI h1 (hK κ' sv' _ _ h2)
theorem xA.wk{T1 T2:St}(h1:xA X o T T1)(hw:Wk X T1 T2):xA X o T T2:=fun κ sv a w hs K Qw hK=>
 h1 κ sv a w hs K Qw fun κ' sv' a' w' hs' =>
  let⟨κ2,sv2,hs2⟩:=hw κ' sv' a' w' hs'
  hK κ2 sv2 a' w' hs2
def vE(t:Nat)(d:I):Ef:=⟨some t,d,none,none⟩
theorem iN{d:I}{t:Nat}(hd:o.dst=some t)(hq:∀h T,Ag X Z nt S h T o→eu X o T (d.bV h)):eS X Z nt o S (vE t d):=fun h T ha _=>NA hd (hq h T ha)
end
def aW{R:Type}(b:Bool)(r:Option R):Option R:=bif b then r else none
theorem ak{R:Type}{b:Bool}{r:Option R}{x:R}(h:aW b r=some x):b=true∧r=some x:=by
 cases b with
 |true=>exact⟨rfl,h⟩
 |false=>cases h
section
variable {α β:Type}
def qg:Nat→List α→Option (List α)
 |0,_=>some []
 |n+1,d::l=>match qg n l with
  |some m=>some (d::m)
  |none=>none
 |_+1,[]=>none
def rm:Nat→List α→List α
 |0,l=>l
 |n+1,_::l=>rm n l
 |_+1,[]=>[]
def eP:List α→Nat→List α→Option (List α)
 |l,0,[]=>some l
 |_::l,0,d::m=>match eP l 0 m with
  |some k=>some (d::k)
  |none=>none
 |x::l,j+1,m=>match eP l j m with
  |some k=>some (x::k)
  |none=>none
 |[],_,_=>none
def Hp(pl:Nat→Option (Nat×Nat)):List α→List (Nat×List α)→Option (List α)
 |l,[]=>some l
 |l,(i,m)::rest=>match pl i with
  |some (off,sz)=>bif Nat.beq m.length sz then(match eP l off m with|some l' =>Hp pl l' rest|none=>none)else none
  |none=>none
end
theorem kE(h:Nat→Nat):∀{n:Nat} {l m:List I},qg n l=some m→takeN n (I.ao h l)=some (I.ao h m)
 |0,l,m,e=>by simp[qg]at e;subst e;rfl
 |n+1,[],m,e=>by simp[qg]at e
 |n+1,d::l,m,e=>by
  unfold qg at e
  cases h1:qg n l with
  |none=>rw[h1]at e;cases e
  |some m' =>
   rw[h1]at e
   simp only[Option.some.injEq]at e
   subst e
   simp only[I.ao,takeN,kE h h1]
theorem kM(h:Nat→Nat):∀(n:Nat) (l:List I),jy n (I.ao h l)=I.ao h (rm n l)
 |0,l=>by simp[jy,rm]
 |n+1,[]=>by simp[jy,rm,I.ao]
 |n+1,d::l=>by simp only[I.ao,jy,rm,kM h n l]
theorem kT(h:Nat→Nat):∀{l m k:List I} {j:Nat},eP l j m=some k→fO (I.ao h l) j (I.ao h m)=some (I.ao h k)
 |l,[],k,0,e=>by
  cases l<;>(simp[eP]at e;subst e;simp[I.ao,fO])
 |[],m,k,j+1,e=>by simp[eP]at e
 |[],d::m,k,0,e=>by simp[eP]at e
 |x::l,d::m,k,0,e=>by
  unfold eP at e
  cases h1:eP l 0 m with
  |none=>rw[h1]at e;cases e
  |some k' =>
   rw[h1]at e
   simp only[Option.some.injEq]at e
   subst e
   simp only[I.ao,fO,kT h h1]
 |x::l,m,k,j+1,e=>by
  unfold eP at e
  cases h1:eP l j m with
  |none=>rw[h1]at e;cases e
  |some k' =>
   rw[h1]at e
   simp only[Option.some.injEq]at e
   subst e
   have:=kT h h1
   cases m<;>simp only[I.ao,fO]at this⊢<;>rw[this]
theorem eZ(h:Nat→Nat)(l:List I):(I.ao h l).length=l.length:=by simp[dO]
theorem Ba(h:Nat→Nat)(pl:Nat→Option (Nat×Nat)):∀{ps:List (Nat×List I)} {l k:List I},Hp pl l ps=some k→ye pl (I.ao h l) (ps.map fun p=>(p.1,I.ao h p.2))=some (I.ao h k)
 |[],l,k,e=>by simp[Hp]at e;subst e;rfl
 |(i,m)::ps,l,k,e=>by
  simp only[Hp]at e
  simp only[List.map_cons,ye,eZ]
  cases hp:pl i with
  |none=>rw[hp]at e;cases e
  |some q=>
   obtain⟨off,sz⟩:=q
   rw[hp]at e
   simp only at e⊢
   cases hb:Nat.beq m.length sz with
   |false=>rw[hb]at e;cases e
   |true=>
    rw[hb]at e
    simp only[cond_true]at e⊢
    cases ho:eP l off m with
    |none=>rw[ho]at e;cases e
    |some l' =>
     rw[ho]at e
     rw[kT h ho]
     exact Ba h pl e
theorem iM(h:Nat→Nat):∀{l:List I} {n:Nat} {d:I},nth l n=some d→nth (I.ao h l) n=some (d.bV h)
 |[],n,d,e=>by simp[nth]at e
 |x::l,0,d,e=>by simp[nth]at e;subst e;rfl
 |x::l,n+1,d,e=>by simp only[nth]at e;simp only[I.ao,nth];exact iM h e
def I.jk:I→Bool
 | .agg _| .tup _| .undef=>false
 |_=>true
def I.cells:I→List I
 | .agg l=>l
 |d=>[d]
def vc:List I→Bool
 |[]=>true
 |d::l=>d.jk&&vc l
theorem D0(h:Nat→Nat)(d:I):(d.bV h).jk=d.jk:=by cases d<;>first|rfl|(rename_i l;cases l<;>rfl)
theorem ie(h:Nat→Nat):∀l:List I,aU (I.ao h l)=vc l
 |[]=>rfl
 |d::l=>by simp only[I.ao,aU,vc,D0,ie h l]
theorem gk(h:Nat→Nat)(d:I):(d.bV h).cells=I.ao h d.cells:=by cases d<;>first|rfl|(rename_i l;cases l<;>rfl)
def zI:Zr→I
 | .i k=> .int k 0
 | .b=> .bool false
 | .s=> .str ⟨#[]⟩
 | .sl=> .nil
 | .o=> .one
theorem sj(h:Nat→Nat):∀zs:List Zr,I.ao h (zs.map zI)=zs.map Zr.bV
 |[]=>rfl
 |z::zs=>by simp only[List.map_cons,I.ao,sj h zs];cases z<;>rfl
end Go.Ab
namespace Go.Ab
open Go Go.RowKit
set_option linter.all false
set_option maxHeartbeats 1000000
section
variable {R:Type} {X:Ctx} {Z:ISeat} {nt:Nat} {S:IS} {o:Oper} {r:R} {k:Ef→Option R} {t:Nat}
def isNil:Operand→Bool
 | .const (.slice none 0 0)=>true
 |_=>false
theorem B5{x:Operand}(h:isNil x=true):x= .const (.slice none 0 0):=by
 unfold isNil at h
 split at h
 ·rfl
 ·cases h
def Qr(Z:ISeat)(ty:Nat):Option (Nat×T):=match nth Z.dS ty with
 |some r=>bif Nat.beq r.k 3 then(match Z.ty r.el with|some t=>some (r.el,t)|none=>none)else none
 |none=>none
def qy(S:IS)(t s:Nat)(ow:IOwn):Ef:=⟨some t, .os s (S.gen s+1),some (s,S.gen s+1),some (s,ow)⟩
theorem fI{h:Nat→Nat}{T:St}{t s:Nat}{ow:IOwn}(hγ:T.γ s=h s+S.gen s):T.owned t s (ow.bq h)=T.app (qy S t s ow).wr ((qy S t s ow).vl h):=by
 unfold St.owned St.app qy Ef.wr Ef.vl
 rw[hγ];rfl
theorem PW{T:St}{x:Operand}{E z:Nat}{f:Nat→List D}(ho:o.op= .move x∨o.op= .assign x)(hd:o.dst=some t)(hx:x= .const (.slice none 0 0)):kX X o T (T.owned t t (.arr E z 0 f)):=fun κ sv a w hs=>by
 subst hx
 refine⟨.slice none 0 0,w,κ,bM sv t (.slice none 0 0), .inl ?_, ?_⟩
 ·rcases ho with ho|ho<;>simp[execOp,ho,Act.eval]
 ·rw[hd]
  exact dY hs t t (pv:= .slice none 0 0) (ow:= .arr E z 0 f) rfl (bN (Below.refl _ _) _) (fun b hb=>by cases hb)
   ⟨[],by rw[aj];exact gS _ _ _ _,fun _ h=>by omega,fun _ h=>by omega,fun _ h=>by omega⟩
def K1(Z:ISeat)(nt:Nat)(S:IS)(ty:Nat)(t:Nat)(x:Operand)(k:Ef→Option R):Option R:=
 bif isNil x then(match Qr Z ty with|some p=>k (qy S t t (.arr p.1 p.2 []))|none=>k (vE t .nil))else k (vE t (S.ev Z nt x))
theorem F3{x:Operand}{ty:Nat}(ho:o.op= .move x∨o.op= .assign x)(hd:o.dst=some t)(h:K1 Z nt S ty t x k=some r):∃e,k e=some r∧eS X Z nt o S e:=by
 have q:eS X Z nt o S (vE t (S.ev Z nt x)):=iN hd fun h T ha=>by
  rcases ho with ho|ho
  ·exact lC ho (ha.ev (by rw[ho];simp[Op.operands]) rfl)
  ·exact gE ho (ha.ev (by rw[ho];simp[Op.operands]) rfl)
 unfold K1 at h
 cases hn:isNil x with
 |false=>rw[hn]at h;exact⟨_,h,q⟩
 |true=>
  rw[hn]at h
  have hx:=B5 hn
  simp only[cond_true]at h
  cases hs:Qr Z ty with
  |none=>
   rw[hs]at h
   have:S.ev Z nt x= .nil:=by rw[hx];rfl
   rw[this]at q
   exact⟨_,h,q⟩
  |some p=>
   rw[hs]at h
   refine⟨_,h,fun h T ha hg=> ?_⟩
   rw[←fI (hg _ rfl)]
   exact fm (PW ho hd hx)
theorem D3{x:Operand}(ho:o.op= .move x∨o.op= .assign x)(hd:o.dst=some t)(hn:isNil x=true)(h:k (vE t .nil)=some r):∃e,k e=some r∧eS X Z nt o S e:=by
 have hx:=B5 hn
 have q:eS X Z nt o S (vE t (S.ev Z nt x)):=iN hd fun h T ha=>by
  rcases ho with ho|ho
  ·exact lC ho (ha.ev (by rw[ho];simp[Op.operands]) rfl)
  ·exact gE ho (ha.ev (by rw[ho];simp[Op.operands]) rfl)
 have:S.ev Z nt x= .nil:=by rw[hx];rfl
 rw[this]at q
 exact⟨_,h,q⟩
def Ot(Z:ISeat)(nt:Nat)(S:IS)(t:Nat)(c x y:Operand)(k:Ef→Option R):Option R:=match S.ev Z nt c with
 | .bool b=>bif b then k (vE t (S.ev Z nt x))else k (vE t (S.ev Z nt y))
 |_=>none
theorem LB{c x y:Operand}(ho:o.op= .pick c x y)(hd:o.dst=some t)(h:Ot Z nt S t c x y k=some r):∃e,k e=some r∧eS X Z nt o S e:=by
 unfold Ot at h
 split at h
 ·rename_i b hb
  cases b with
  |true=>exact⟨_,h,iN hd fun h T ha=>FV ho (ha.ev (by rw[ho];simp[Op.operands]) hb) (ha.ev (by rw[ho];simp[Op.operands]) rfl)⟩
  |false=>exact⟨_,h,iN hd fun h T ha=>FA ho (ha.ev (by rw[ho];simp[Op.operands]) hb) (ha.ev (by rw[ho];simp[Op.operands]) rfl)⟩
 ·cases h
def zh:Nat→Nat:=fun _=>0
theorem FL(h:Nat→Nat):∀{l m:List I} {b:Bool},j8 (I.ao zh l) (I.ao zh m)=some b→j8 (I.ao h l) (I.ao h m)=some b
 |[],[],b,e=>e
 |[],_::_,b,e=>by simp[I.ao,j8]at e
 |x::l,[],b,e=>by cases x<;>first|(simp[I.ao,I.bV,j8,Kn]at e;done)|(simp only[I.ao,I.bV,O5]at e;split at e<;>simp[j8,Kn]at e)
 |x::l,y::m,b,e=>by
  cases x<;>cases y<;>(try (simp only[I.ao,I.bV,O5]at e;repeat' split at e)<;>(simp[j8,Kn]at e;done))<;>simp only[I.ao,I.bV,j8,Kn]at e⊢<;>try (cases e;done)
  ·cases hk:(_:IntKind)==_ with
   |false=>simp[hk]at e
   |true=>
    simp only[hk]at e⊢
    cases hr:j8 (I.ao zh l) (I.ao zh m)with
    |none=>rw[hr]at e;simp at e
    |some r=>rw[hr]at e;rw[FL h hr];exact e
  ·cases hr:j8 (I.ao zh l) (I.ao zh m)with
   |none=>rw[hr]at e;simp at e
   |some r=>rw[hr]at e;rw[FL h hr];exact e
theorem GZ(h:Nat→Nat)(P:Program)(f:Field)(d:I):rh P f (d.bV h)=rh P f (d.bV zh):=by cases d<;>first|rfl|(rename_i l;cases l<;>rfl)
theorem xt(h:Nat→Nat)(P:Program):∀(fs:List Field) (l:List I) (n:Nat),iu P fs (I.ao h l) n=iu P fs (I.ao zh l) n
 |[],[],n=>rfl
 |[],_::_,n=>rfl
 |_::_,[],n=>rfl
 |f::fs,d::l,n=>by simp only[I.ao,iu,GZ h,xt h P fs l]
theorem FU(h:Nat→Nat)(P:Program)(ty:TypeId)(l:List I):nR P ty (I.ao h l)=nR P ty (I.ao zh l):=by
 unfold nR
 split
 ·rw[xt]
 ·rfl
theorem tZ(h:Nat→Nat)(P:Program):∀(fs:List Field) (l:List I) (n:Nat),g7 P fs (I.ao h l) n=g7 P fs (I.ao zh l) n
 |[],[],n=>rfl
 |[],_::_,n=>rfl
 |f::fs,l,n=>by
  have e1:∀h:Nat→Nat,∀(l:List I) k,(I.ao h l).take k=I.ao h (l.take k):=fun h l k=>by simp[dO,List.map_take]
  have e2:∀h:Nat→Nat,∀(l:List I) k,(I.ao h l).drop k=I.ao h (l.drop k):=fun h l k=>by simp[dO,List.map_drop]
  have e3:∀(l:List I),(I.ao h l).length=(I.ao zh l).length:=fun l=>by simp[dO]
  simp only[g7,e1,e2,FU h,e3,tZ h P fs]
theorem Gb(h:Nat→Nat)(P:Program)(ty:TypeId)(l:List I):qn P ty (I.ao h l)=qn P ty (I.ao zh l):=by
 unfold qn AO
 rw[FU]
 split
 ·rw[tZ]
 ·rfl
def JF(Z:ISeat)(t:Nat)(op:BinOp)(ty:TypeId)(k:Ef→Option R):I→I→Option R
 | .int k1 m, .int k2 n=>match op with
   | .eql=>aW (decide (k1=k2)) (k (vE t (.bool (m==n))))
   | .neq=>aW (decide (k1=k2)) (k (vE t (.bool (m !=n))))
   | .lss=>aW (decide (k1=k2)) (k (vE t (.bool (decide (m<n)))))
   | .leq=>aW (decide (k1=k2)) (k (vE t (.bool (decide (m≤n)))))
   | .gtr=>aW (decide (k1=k2)) (k (vE t (.bool (decide (m>n)))))
   | .geq=>aW (decide (k1=k2)) (k (vE t (.bool (decide (m≥n)))))
   | .add=>aW (decide (k1=k2)) (k (vE t (.int k1 (k1.wrap (m+n)))))
   | .sub=>aW (decide (k1=k2)) (k (vE t (.int k1 (k1.wrap (m-n)))))
   | .mul=>aW (decide (k1=k2)) (k (vE t (.int k1 (k1.wrap (m*n)))))
   | .quo=>aW (decide (k1=k2)) (aW (n !=0) (k (vE t (.int k1 (k1.wrap (m.tdiv n))))))
   | .rem=>aW (decide (k1=k2)) (aW (n !=0) (k (vE t (.int k1 (m.tmod n)))))
   | .xor=>aW (decide (k1=k2)) (k (vE t (.int k1 (k1.wrap (BitVec.ofInt k1.bits m^^^BitVec.ofInt k1.bits n).toNat))))
   | .and=>aW (decide (k1=k2)) (k (vE t (.int k1 (k1.wrap (BitVec.ofInt k1.bits m&&&BitVec.ofInt k1.bits n).toNat))))
   | .andNot=>aW (decide (k1=k2)) (k (vE t (.int k1 (k1.wrap (BitVec.ofInt k1.bits m&&& ~~~BitVec.ofInt k1.bits n).toNat))))
   | .shr=>aW (decide (0≤n)) (k (vE t (.int k1 (m.fdiv (2^(min n.toNat k1.bits))))))
   | .shl=>aW (decide (0≤n)) (k (vE t (.int k1 (k1.wrap (m*2^(min n.toNat k1.bits))))))
   |_=>none
 | .bool a, .bool b=>match op with
   | .eql=>aW (Z.isB ty) (k (vE t (.bool (a==b))))
   | .neq=>aW (Z.isB ty) (k (vE t (.bool (!(a==b)))))
   |_=>none
 | .str a, .str b=>(match op with
   | .eql=>k (vE t (.bool (a.toList==b.toList)))
   | .neq=>k (vE t (.bool (!(a.toList==b.toList))))
   |_=>none)
 | .agg l, .agg m=>aW (qn Z.P ty (I.ao zh l)) (match j8 (I.ao zh l) (I.ao zh m)with
   |some b=>(match op with
    | .eql=>k (vE t (.bool b))
    | .neq=>k (vE t (.bool (!b)))
    |_=>none)
   |none=>none)
 | .nsl _ l, .nil=>(match op with
   | .eql=>(match nth Z.dS ty with
     |some q=>aW (Nat.beq q.k 3) (k (vE t (.bool l.isEmpty)))
     |none=>none)
   |_=>none)
 |_,_=>none
theorem Iu{T:St}{ty ty2:TypeId}{x y:Operand}{u:Go.Ab.T}{l:List (den u)}{q:TRow}(ho:o.op= .binOp .eql ty x y ty2)(hr:nth X.Z.dS ty=some q)(hk:Nat.beq q.k 3=true)(hx:T.ev X x=O5 u l)(hy:T.ev X y= .nil):eu X o T (.bool l.isEmpty):=fun κ sv a w hs=>by
 have hu:=cZ (X.Z.tabOk _ _ hr (by intro e;rw[e]at hk;cases hk)) hk
 have h1:=hs.ev x
 rw[hx]at h1
 have h2:=hs.ev y
 rw[hy]at h2
 generalize hxe:a.eval x=xv at h1
 generalize hye:a.eval y=yv at h2
 cases h2
 refine⟨.bool l.isEmpty, .bool _,fun w' _=> ?_⟩
 cases l with
 |nil=>
  cases h1
  simp[execOp,ho,hxe,hye,eqGuard,ma hu]
 |cons b l=>
  have h1:cX κ T.γ sv (Kn u (b::l)) xv:=h1
  generalize hn:(b::l)=m at h1⊢
  have hm:m.length≠0:=by rw[←hn];simp
  have hme:m.isEmpty=false:=by rw[←hn];rfl
  unfold Kn at h1
  generalize hz:m.length=z at h1 hm
  cases h1 with
  |sl _ _ _ b off cap u q1 q2 q3 q4 q5=>simp[execOp,ho,hxe,hye,eqGuard,ma hu,hme]
  |sl0=>exact absurd rfl hm
  |slE=>exact absurd rfl hm
theorem IL(hX:At X Z nt){op:BinOp}{ty ty2:TypeId}{x y:Operand}(ho:o.op= .binOp op ty x y ty2)(hd:o.dst=some t)(h:JF Z t op ty k (S.ev Z nt x) (S.ev Z nt y)=some r):∃e,k e=some r∧eS X Z nt o S e:=by
 have mx:x∈o.op.operands.toList:=by rw[ho];simp[Op.operands]
 have my:y∈o.op.operands.toList:=by rw[ho];simp[Op.operands]
 unfold JF at h
 split at h
 ·rename_i k1 m k2 n hx hy
  have cm:∀{b:Bool},k1=k2→OO op m n=some b→eS X Z nt o S (vE t (.bool b)):=fun e hc=>by
   subst e
   exact iN hd fun h T ha=>aC ho (ha.ev mx hx) (ha.ev my hy) hc
  have ar:∀{e:Int},k1=k2→wZ op m n=some e→eS X Z nt o S (vE t (.int k1 (k1.wrap e))):=fun e hc=>by
   subst e
   exact iN hd fun h T ha=>Kf ho (ha.ev mx hx) (ha.ev my hy) hc
  split at h<;>first
   |(obtain⟨h1,h2⟩:=ak h;exact⟨_,h2,cm (of_decide_eq_true h1) rfl⟩)
   |(obtain⟨h1,h2⟩:=ak h;exact⟨_,h2,ar (of_decide_eq_true h1) rfl⟩)
   |(obtain⟨h1,h⟩:=ak h
     obtain⟨h3,h2⟩:=ak h
     have:=of_decide_eq_true h1
     subst this
     have hn:n≠0:=by simpa using h3
     refine⟨_,h2,iN hd fun h T ha=> ?_⟩
     first
      |exact Nn ho (ha.ev mx hx) (ha.ev my hy) hn
      |exact Nd ho (ha.ev mx hx) (ha.ev my hy) hn)
   |(obtain⟨h1,h2⟩:=ak h
     have:=of_decide_eq_true h1
     subst this
     refine⟨_,h2,iN hd fun h T ha=> ?_⟩
     first
      |(have hq:=PV ho (ha.ev mx hx) (ha.ev my hy);exact hq)
      |(have hq:=P8 ho (ha.ev mx hx) (ha.ev my hy);exact hq)
      |(have hq:=Ib ho (ha.ev mx hx) (ha.ev my hy);exact hq))
   |(obtain⟨h1,h2⟩:=ak h
     have:=of_decide_eq_true h1
     refine⟨_,h2,iN hd fun h T ha=> ?_⟩
     first
      |exact PR ho (ha.ev mx hx) (ha.ev my hy) this
      |exact Pb ho (ha.ev mx hx) (ha.ev my hy) this)
   |cases h
 ·rename_i a b hx hy
  split at h
  ·obtain⟨h1,h2⟩:=ak h
   exact⟨_,h2,iN hd fun h T ha=>PY ho (by rw[hX.Z];exact Z.isB_ok _ h1) (ha.ev mx hx) (ha.ev my hy)⟩
  ·obtain⟨h1,h2⟩:=ak h
   exact⟨_,h2,iN hd fun h T ha=>N6 ho (by rw[hX.Z];exact Z.isB_ok _ h1) (ha.ev mx hx) (ha.ev my hy)⟩
  ·cases h
 ·rename_i a b hx hy
  split at h
  ·exact⟨_,h,iN hd fun h T ha=>PN ho (ha.ev mx hx) (ha.ev my hy)⟩
  ·exact⟨_,h,iN hd fun h T ha=>PH ho (ha.ev mx hx) (ha.ev my hy)⟩
  ·cases h
 ·rename_i l m hx hy
  obtain⟨h1,h⟩:=ak h
  split at h
  ·rename_i b hb
   split at h
   ·exact⟨_,h,iN hd fun h T ha=>J8 ho (ha.ev mx hx) (ha.ev my hy) (FL h hb) (by rw[hX.Z,Gb];exact h1)⟩
   ·exact⟨_,h,iN hd fun h T ha=>vJ ho (ha.ev mx hx) (ha.ev my hy) (FL h hb) (by rw[hX.Z,Gb];exact h1)⟩
   ·cases h
  ·cases h
 ·rename_i u l hx hy
  split at h
  ·split at h
   ·rename_i q hq
    obtain⟨h1,h2⟩:=ak h
    exact⟨_,h2,iN hd fun h T ha=>Iu ho (by rw[hX.Z];exact hq) h1 (ha.ev mx hx) (ha.ev my hy)⟩
   ·cases h
  ·cases h
 ·cases h
theorem Oi{T:St}{ty:TypeId}{x:Operand}{kk:IntKind}{n:Int}(ho:o.op= .unOp .neg ty x)(hx:T.ev X x= .int kk n):eu X o T (.int kk (kk.wrap (-n))):=fun κ sv a w hs=>
 ⟨.int kk (kk.wrap (-n)), .int _ _,fun w' _=>by simp[execOp,ho,dz hs hx,Op.unary,Op.intArith]⟩
def NX(t:Nat)(op:UnOp)(k:Ef→Option R):I→Option R
 | .bool b=>match op with| .not=>k (vE t (.bool (!b)))|_=>none
 | .int kk n=>match op with| .neg=>k (vE t (.int kk (kk.wrap (-n))))|_=>none
 |_=>none
theorem LA{op:UnOp}{ty:TypeId}{x:Operand}(ho:o.op= .unOp op ty x)(hd:o.dst=some t)(h:NX t op k (S.ev Z nt x)=some r):∃e,k e=some r∧eS X Z nt o S e:=by
 have mx:x∈o.op.operands.toList:=by rw[ho];simp[Op.operands]
 unfold NX at h
 split at h
 ·rename_i b hx
  split at h
  ·exact⟨_,h,iN hd fun h T ha=>cR ho (ha.ev mx hx)⟩
  ·cases h
 ·rename_i b hx
  split at h
  ·exact⟨_,h,iN hd fun h T ha=>Oi ho (ha.ev mx hx)⟩
  ·cases h
 ·cases h
def Oa(Z:ISeat)(t:Nat)(ty ty2:TypeId)(k:Ef→Option R):I→Option R
 | .int _ n=>aW ((Z.ik ty).isSome) (match Z.ik ty2 with|some k2=>k (vE t (.int k2 (k2.wrap n)))|none=>none)
 |_=>none
theorem LJ(hX:At X Z nt){ty ty2:TypeId}{x:Operand}(ho:o.op= .convert ty ty2 x)(hd:o.dst=some t)(h:Oa Z t ty ty2 k (S.ev Z nt x)=some r):∃e,k e=some r∧eS X Z nt o S e:=by
 have mx:x∈o.op.operands.toList:=by rw[ho];simp[Op.operands]
 unfold Oa at h
 split at h
 ·rename_i kk n hx
  obtain⟨h1,h⟩:=ak h
  obtain⟨k1,e1⟩:=Option.isSome_iff_exists.1 h1
  split at h
  ·rename_i k2 e2
   exact⟨_,h,iN hd fun h T ha=>N9 ho (by rw[hX.Z,Z.ik_ok _ _ e1];rfl) (by rw[hX.Z];exact Z.ik_ok _ _ e2) (ha.ev mx hx)⟩
  ·cases h
 ·cases h
def Na(t i:Nat)(k:Ef→Option R):I→Option R
 | .tup l=>match nth l i with|some d=>k (vE t d)|none=>none
 |_=>none
theorem Ls{i:Nat}{x:Operand}(ho:o.op= .extract x i)(hd:o.dst=some t)(h:Na t i k (S.ev Z nt x)=some r):∃e,k e=some r∧eS X Z nt o S e:=by
 have mx:x∈o.op.operands.toList:=by rw[ho];simp[Op.operands]
 unfold Na at h
 split at h
 ·rename_i l hx
  split at h
  ·rename_i d hi
   exact⟨_,h,iN hd fun h T ha=>cv ho (ha.ev mx hx) (iM h hi)⟩
  ·cases h
 ·cases h
end
end Go.Ab
namespace Go.Ab
open Go Go.RowKit
set_option linter.all false
set_option maxHeartbeats 1000000
section
variable {R:Type} {X:Ctx} {Z:ISeat} {nt:Nat} {S:IS} {o:Oper} {r:R} {k:Ef→Option R} {t:Nat}
def rowOf(Z:ISeat)(ty:Nat)(k:TRow→Option R):Option R:=match nth Z.dS ty with
 |some q=>bif Nat.beq q.k 9 then none else k q
 |none=>none
theorem cr{ty:Nat}{f:TRow→Option R}(h:rowOf Z ty f=some r):∃q,nth Z.dS ty=some q∧Nat.beq q.k 9=false∧f q=some r:=by
 unfold rowOf at h
 split at h
 ·rename_i q hq
  cases hb:Nat.beq q.k 9 with
  |true=>rw[hb]at h;cases h
  |false=>rw[hb]at h;exact⟨q,hq,hb,h⟩
 ·cases h
def GC(q:TRow):Bool:=Nat.beq q.k 1||Nat.beq q.k 2
theorem Kj{T:St}{ty:TypeId}{x:Operand}{f off fsz:Nat}{l m:List D}{q:TRow}(ho:o.op= .field ty x f)(hx:T.ev X x= .agg l)(hr:nth X.Z.dS ty=some q)(hk:Nat.beq q.k 1=true)
 (hf:nth q.fl f=some (off,fsz,true))(hm:takeN fsz (jy off l)=some m):eu X o T (.agg m):=fun κ sv a w hs=>by
 have hok:=X.Z.tabOk _ _ hr (by intro e;rw[e]at hk;cases hk)
 obtain⟨i,dd,hi,hdd,_,_,_,h4⟩:=cW hok
 have hk1:=Nat.eq_of_beq_eq_true hk
 cases dd<;>try (simp only at h4;omega)
 rename_i fs
 obtain⟨_,hfl,hall⟩:=h4
 rw[dX,←hfl,List.getElem?_map]at hf
 obtain⟨rfl,hlen⟩:=ku hm
 rw[kN]at hlen⊢
 obtain⟨vs,he,hl⟩:=qB hs hx
 refine⟨.agg ((vs.drop off).take fsz).toArray, .agg _ _ ((hl.drop _).take _),fun w' _=> ?_⟩
 cases hff:fs.toList[f]?with
 |none=>rw[hff]at hf;cases hf
 |some Ka=>
  rw[hff]at hf
  simp only[Option.map_some,Option.some.injEq,Prod.mk.injEq]at hf
  obtain⟨h1,h2,h3⟩:=hf
  have hsome:=List.all_eq_true.1 hall Ka (List.mem_of_getElem? hff)
  rw[Bool.and_eq_true]at hsome
  obtain⟨d2,hu2⟩:=Option.isSome_iff_exists.1 hsome.2
  obtain⟨i2,hi2⟩:=Option.isSome_iff_exists.1 hsome.1
  have hff' :fs[f]? =some Ka:=by simpa using hff
  have hagg:(isAgg Ka.type).run X.Z.P w' = .ok true w' :=by rw[iW hu2,h3]
  have hsz:i2.size=fsz:=by rw[←vQ hi2,h2]
  have hext:vs.toArray.extract off (off+fsz)=((vs.drop off).take fsz).toArray:=by simp[List.extract_eq_drop_take]
  simp[execOp,ho,he,Instr.field,run_underlying hdd,hff',asAgg,part,hagg,h1,run_sizeOf hi2,hsz,hext]
def M5(Z:ISeat)(t ty f:Nat)(k:Ef→Option R):I→Option R
 | .agg l=>rowOf Z ty fun q=>aW (Nat.beq q.k 1) (match nth q.fl f with
   |some (off,fsz,true)=>(match qg fsz (rm off l)with|some m=>k (vE t (.agg m))|none=>none)
   |some (off,_,false)=>(match nth l off with|some d=>k (vE t d)|none=>none)
   |none=>none)
 |_=>none
theorem KV(hX:At X Z nt){ty f:Nat}{x:Operand}(ho:o.op= .field ty x f)(hd:o.dst=some t)(h:M5 Z t ty f k (S.ev Z nt x)=some r):∃e,k e=some r∧eS X Z nt o S e:=by
 have mx:x∈o.op.operands.toList:=by rw[ho];simp[Op.operands]
 unfold M5 at h
 split at h
 ·rename_i l hx
  obtain⟨q,hq,h9,h⟩:=cr h
  obtain⟨hk,h⟩:=ak h
  split at h
  ·rename_i off fsz hf
   split at h
   ·rename_i m hm
    exact⟨_,h,iN hd fun h T ha=>Kj ho (ha.ev mx hx) (by rw[hX.Z];exact hq) hk hf (by rw[kM];exact kE h hm)⟩
   ·cases h
  ·rename_i off fsz hf
   split at h
   ·rename_i d hm
    exact⟨_,h,iN hd fun h T ha=>rR ho (ha.ev mx hx) (by rw[hX.Z];exact hq) hk hf rfl (iM h hm)⟩
   ·cases h
  ·cases h
 ·cases h
def xc(Z:ISeat)(nt:Nat)(S:IS):List (Nat×Operand)→List (Nat×List I)
 |[]=>[]
 |(i,x)::l=>(i,(S.ev Z nt x).cells)::xc Z nt S l
def z4(Z:ISeat)(nt:Nat)(S:IS):List (Nat×Operand)→Bool
 |[]=>true
 |(_,x)::l=>vc (S.ev Z nt x).cells&&z4 Z nt S l
theorem tO{h:Nat→Nat}{T:St}(ha:Ag X Z nt S h T o):∀{l:List (Nat×Operand)},(∀p∈l,p.2∈o.op.operands.toList)→
 fK X T l=(xc Z nt S l).map (fun p=>(p.1,I.ao h p.2))∧gi X T l=z4 Z nt S l
 |[],_=>⟨rfl,rfl⟩
 |(i,x)::l,hm=>by
  obtain⟨h1,h2⟩:=tO ha (l:=l) fun p hp=>hm p (List.mem_cons_of_mem _ hp)
  have h3:=ha.ev (hm (i,x) (List.mem_cons_self ..)) rfl
  simp only at h3
  simp only[fK,xc,gi,z4,List.map_cons,h1,h2,h3,gk,ie,and_self]
def Ob(Z:ISeat)(nt:Nat)(S:IS)(t ty:Nat)(ps:Array (Nat×Operand))(k:Ef→Option R):Option R:=rowOf Z ty fun q=>aW (z4 Z nt S ps.toList)
 (bif Nat.beq q.k 1 then(match Hp (OT q.fl) (q.zs.map zI) (xc Z nt S ps.toList)with|some l=>k (vE t (.agg l))|none=>none)
  else aW (Nat.beq q.k 2) (rowOf Z q.el fun q2=>match Hp (fun i=>some (i*q2.sz,q2.sz)) (q.zs.map zI) (xc Z nt S ps.toList)with|some l=>k (vE t (.agg l))|none=>none))
theorem LZ(hX:At X Z nt){ty:Nat}{ps:Array (Nat×Operand)}(ho:o.op= .build ty ps)(hd:o.dst=some t)(h:Ob Z nt S t ty ps k=some r):∃e,k e=some r∧eS X Z nt o S e:=by
 have hm:∀p∈ps.toList,p.2∈o.op.operands.toList:=fun p hp=>by rw[ho];simp only[Op.operands];exact List.mem_map.2 ⟨p,hp,rfl⟩
 unfold Ob at h
 obtain⟨q,hq,h9,h⟩:=cr h
 obtain⟨hp,h⟩:=ak h
 cases hk:Nat.beq q.k 1 with
 |true=>
  rw[hk]at h
  simp only[cond_true]at h
  split at h
  ·rename_i l hl
   refine⟨_,h,iN hd fun h T ha=> ?_⟩
   obtain⟨h1,h2⟩:=tO ha hm
   exact bK ho (by rw[hX.Z];exact hq) hk (h2.trans hp) (by rw[h1,←sj h];exact Ba h _ hl)
  ·cases h
 |false=>
  rw[hk]at h
  simp only[cond_false]at h
  obtain⟨hk2,h⟩:=ak h
  obtain⟨q2,hq2,h92,h⟩:=cr h
  split at h
  ·rename_i l hl
   refine⟨_,h,iN hd fun h T ha=> ?_⟩
   obtain⟨h1,h2⟩:=tO ha hm
   exact eH ho (by rw[hX.Z];exact hq) hk2 rfl (by rw[hX.Z];exact hq2) h92 (h2.trans hp) (by rw[h1,←sj h];exact Ba h _ hl)
  ·cases h
def OV(q:TRow)(t:Nat)(l:List I)(j:Nat)(k:Ef→Option R):Option R:=
 bif GC q then(match qg q.sz (rm j l)with|some m=>k (vE t (.agg m))|none=>none)else(match nth l j with|some d=>k (vE t d)|none=>none)
theorem Ay{q:TRow}{l:List I}{j:Nat}(h:OV q t l j k=some r):(GC q=true∧∃m,qg q.sz (rm j l)=some m∧k (vE t (.agg m))=some r)∨(GC q=false∧∃d,nth l j=some d∧k (vE t d)=some r):=by
 unfold OV at h
 cases ha:GC q with
 |true=>
  rw[ha]at h
  simp only[cond_true]at h
  split at h
  ·exact .inl ⟨rfl,_,by assumption,h⟩
  ·cases h
 |false=>
  rw[ha]at h
  simp only[cond_false]at h
  split at h
  ·exact .inr ⟨rfl,_,by assumption,h⟩
  ·cases h
def IC(ty:T)(l:List (den ty))(i:Nat):List I:=bO ty (l.getD i (dD ty))
def OK(Z:ISeat)(S:IS)(t ty:Nat)(k:Ef→Option R):I→Option R
 | .rp l j=>bif Z.isF ty then(match nth l j with|some d=>k (vE t d)|none=>none)else rowOf Z ty fun q=>OV q t l j k
 | .bx s g j=>bif Z.isF ty then(bif Nat.beq g (S.gen s)then(match S.own s with| .box l=>(match nth l j with|some d=>k (vE t d)|none=>none)|_=>none)else none)else rowOf Z ty fun q=>bif Nat.beq g (S.gen s)then(match S.own s with| .box l=>OV q t l j k|_=>none)else none
 | .op s g z i j=>rowOf Z ty fun q=>bif Nat.beq g (S.gen s)then(match S.own s with| .arr _ e l=>aW (Nat.beq z (sz e)) (aW (decide (i<l.length)) (OV q t (IC e l i) j k))|_=>none)else none
 |_=>none
theorem rP{x:Operand}{s g j:Nat}(hx:S.ev Z nt x= .bx s g j):s∈nA (S.ev Z nt x):=by rw[hx];simp[nA]
theorem gv{x:Operand}{s g:Nat}(hx:S.ev Z nt x= .os s g):s∈nA (S.ev Z nt x):=by rw[hx];simp[nA]
theorem uA{x:Operand}{s g z i j:Nat}(hx:S.ev Z nt x= .op s g z i j):s∈nA (S.ev Z nt x):=by rw[hx];simp[nA]
theorem KB(hX:At X Z nt){ty:Nat}{x:Operand}(ho:o.op= .load ty x)(hd:o.dst=some t)(h:OK Z S t ty k (S.ev Z nt x)=some r):∃e,k e=some r∧eS X Z nt o S e:=by
 have mx:x∈o.op.operands.toList:=by rw[ho];simp[Op.operands]
 have hl2:lvl o=2:=by simp[lvl,ho]
 have hl1:lvl o≠0:=by rw[hl2];simp
 unfold OK at h
 split at h
 ·rename_i l j hx
  cases hF:Z.isF ty with
  |true=>
   rw[hF]at h
   simp only[cond_true]at h
   obtain⟨td,hu,ha0⟩:=Z.isF_ok _ hF
   split at h
   ·rename_i d hm
    exact⟨_,h,iN hd fun h T ha=>NV ho (ha.ev mx hx) (by rw[hX.Z];exact hu) (by rw[hX.Z];exact ha0) (iM h hm)⟩
   ·cases h
  |false=>
  rw[hF]at h
  simp only[cond_false]at h
  obtain⟨q,hq,h9,h⟩:=cr h
  rcases Ay h with⟨hk,m,hm,h⟩|⟨hk,d,hm,h⟩
  ·exact⟨_,h,iN hd fun h T ha=>aN ho (ha.ev mx hx) (by rw[hX.Z];exact hq) hk h9 (by rw[kM];exact kE h hm)⟩
  ·exact⟨_,h,iN hd fun h T ha=>di ho (ha.ev mx hx) (by rw[hX.Z];exact hq) hk h9 (iM h hm)⟩
 ·rename_i s g j hx
  cases hF:Z.isF ty with
  |true=>
   rw[hF]at h
   simp only[cond_true]at h
   obtain⟨td,hu,ha0⟩:=Z.isF_ok _ hF
   cases hg:Nat.beq g (S.gen s)with
   |false=>rw[hg]at h;cases h
   |true=>
   have hg:=Nat.eq_of_beq_eq_true hg
   subst hg
   simp only[Nat.beq_refl,cond_true]at h
   split at h
   ·rename_i l hσ
    have hp:=rP hx
    split at h
    ·rename_i d hm
     exact⟨_,h,iN hd fun h T ha=>NC ho (ha.ev mx hx) (by rw[hX.Z];exact hu) (by rw[hX.Z];exact ha0) (ha.γ hl1 mx hp) ((ha.σ hl2 mx hp).trans (by rw[hσ];rfl)) (iM h hm)⟩
    ·cases h
   ·cases h
  |false=>
  rw[hF]at h
  simp only[cond_false]at h
  obtain⟨q,hq,h9,h⟩:=cr h
  cases hg:Nat.beq g (S.gen s)with
  |false=>rw[hg]at h;cases h
  |true=>
  have hg:=Nat.eq_of_beq_eq_true hg
  subst hg
  simp only[Nat.beq_refl,cond_true]at h
  split at h
  ·rename_i l hσ
   have hp:=rP hx
   rcases Ay h with⟨hk,m,hm,h⟩|⟨hk,d,hm,h⟩
   ·exact⟨_,h,iN hd fun h T ha=>aq ho (ha.ev mx hx) (by rw[hX.Z];exact hq) hk h9 (ha.γ hl1 mx hp) ((ha.σ hl2 mx hp).trans (by rw[hσ];rfl)) (by rw[kM];exact kE h hm)⟩
   ·exact⟨_,h,iN hd fun h T ha=>aH ho (ha.ev mx hx) (by rw[hX.Z];exact hq) hk h9 (ha.γ hl1 mx hp) ((ha.σ hl2 mx hp).trans (by rw[hσ];rfl)) (iM h hm)⟩
  ·cases h
 ·rename_i s g z i j hx
  obtain⟨q,hq,h9,h⟩:=cr h
  cases hg:Nat.beq g (S.gen s)with
  |false=>rw[hg]at h;cases h
  |true=>
  have hg:=Nat.eq_of_beq_eq_true hg
  subst hg
  simp only[Nat.beq_refl,cond_true]at h
  split at h
  ·rename_i E e l hσ
   obtain⟨hz0,h2⟩:=ak h
   obtain⟨hi0,h3⟩:=ak h2
   clear h h2
   have hz:=Nat.eq_of_beq_eq_true hz0
   clear hz0
   subst hz
   have hi:=of_decide_eq_true hi0
   have h:=h3
   clear h3
   have hp:=uA hx
   have er:∀h:Nat→Nat,dk e (l.getD i (dD e))=I.ao h (IC e l i):=fun h=>(aT h e _).symm
   have hσT:∀h T,Ag X Z nt S h T o→T.σ s= .arr E (sz e) l.length (fun i=>dk e (l.getD i (dD e))):=fun h T ha=>(ha.σ hl2 mx hp).trans (by rw[hσ];rfl)
   rcases Ay h with⟨hk,m,hm,h⟩|⟨hk,d,hm,h⟩
   ·exact⟨_,h,iN hd fun h T ha=>ND ho (ha.ev mx hx) (by rw[hX.Z];exact hq) hk h9 (ha.γ hl1 mx hp) (hσT h T ha) hi (by rw[er h,kM];exact kE h hm)⟩
   ·exact⟨_,h,iN hd fun h T ha=>mb ho (ha.ev mx hx) (by rw[hX.Z];exact hq) hk h9 (ha.γ hl1 mx hp) (hσT h T ha) hi (by rw[er h];exact iM h hm)⟩
  ·cases h
 ·cases h
end
end Go.Ab
namespace Go.Ab
open Go Go.RowKit
set_option linter.all false
set_option maxHeartbeats 1000000
section
variable {R:Type} {X:Ctx} {Z:ISeat} {nt:Nat} {S:IS} {o:Oper} {r:R} {k:Ef→Option R} {t:Nat}
def live(S:IS)(s g:Nat)(x:Option R):Option R:=bif Nat.beq g (S.gen s)then x else none
theorem dp{s g:Nat}{x:Option R}(h:live S s g x=some r):g=S.gen s∧x=some r:=by
 unfold live at h
 cases hg:Nat.beq g (S.gen s)with
 |false=>rw[hg]at h;cases h
 |true=>rw[hg]at h;exact⟨Nat.eq_of_beq_eq_true hg,h⟩
def M0(Z:ISeat)(S:IS)(t ty f:Nat)(k:Ef→Option R)(d:I):Option R:=rowOf Z ty fun q=>aW (Nat.beq q.k 1) (match nth q.fl f with
 |some (off,fsz,_)=>bif Nat.beq fsz 0 then none else(match d with
  | .rp l j=>k (vE t (.rp l (j+off)))
  | .bx s g j=>live S s g (k (vE t (.bx s g (j+off))))
  | .op s g z i j=>live S s g (k (vE t (.op s g z i (j+off))))
  |_=>none)
 |none=>none)
theorem LO(hX:At X Z nt){ty f:Nat}{x:Operand}(ho:o.op= .fieldAddr ty x f)(hd:o.dst=some t)(h:M0 Z S t ty f k (S.ev Z nt x)=some r):∃e,k e=some r∧eS X Z nt o S e:=by
 have mx:x∈o.op.operands.toList:=by rw[ho];simp[Op.operands]
 have hl1:lvl o≠0:=by simp[lvl,ho]
 unfold M0 at h
 obtain⟨q,hq,h9,h⟩:=cr h
 obtain⟨hk,h⟩:=ak h
 split at h
 ·rename_i off fsz ag hf
  cases hz:Nat.beq fsz 0 with
  |true=>rw[hz]at h;cases h
  |false=>
   rw[hz]at h
   simp only[cond_false]at h
   split at h
   ·rename_i l j hx
    exact⟨_,h,iN hd fun h T ha=>iP ho (ha.ev mx hx) (by rw[hX.Z];exact hq) hk hf hz⟩
   ·rename_i s g j hx
    replace h:=dp h
    obtain⟨rfl,h⟩:=h
    exact⟨_,h,iN hd fun h T ha=>aE ho (ha.ev mx hx) (ha.γ hl1 mx (rP hx)) (by rw[hX.Z];exact hq) hk hf hz⟩
   ·rename_i s g z i j hx
    replace h:=dp h
    obtain⟨rfl,h⟩:=h
    exact⟨_,h,iN hd fun h T ha=>zo ho (ha.ev mx hx) (ha.γ hl1 mx (uA hx)) (by rw[hX.Z];exact hq) hk hf hz⟩
   ·cases h
 ·cases h
def xb(i:Int)(k:Nat→Option R):Nat→Nat→Option R
 |0,_=>none
 |n+1,a=>bif i==(a:Int)then k a else xb i k n (a+1)
theorem oU{i:Int}{k:Nat→Option R}:∀{n a:Nat},xb i k n a=some r→∃j:Nat,i=(j:Int)∧j<a+n∧k j=some r
 |0,a,h=>by cases h
 |n+1,a,h=>by
  unfold xb at h
  cases hb:i==(a:Int)with
  |true=>rw[hb]at h;exact⟨a,by simpa using hb,by omega,h⟩
  |false=>
   rw[hb]at h
   obtain⟨j,h1,h2,h3⟩:=oU h
   exact⟨j,h1,by omega,h3⟩
theorem OJ{T:St}{ty:TypeId}{x y:Operand}{r q:TRow}{s g z i j:Nat}{k:Int}(ho:o.op= .indexAddr ty x y)(hx:T.ev X x= .op s g z i j)(hg:T.γ s=g)(hy:T.ev X y= .int .i64 k)(h0:0≤k)
 (hr:nth X.Z.dS ty=some r)(hk:Nat.beq r.k 2=true)(h1:k<r.ln)(hq:nth X.Z.dS r.el=some q)(hq9:Nat.beq q.k 9=false):eu X o T (.op s g z i (j+k.toNat*q.sz)):=fun κ sv a w hs=>by
 have hok:=X.Z.tabOk _ _ hr (by intro e;rw[e]at hk;cases hk)
 have hokq:=X.Z.tabOk _ _ hq (by intro e;rw[e]at hq9;cases hq9)
 have hyv:=lx (hy▸hs.ev y)
 obtain⟨b,off,n,cap,e1,e2⟩:=AT hs hx hg
 exact⟨.pointer (some ⟨b,off+(i*z+(j+k.toNat*q.sz)),none⟩), .op _ _ _ _ _ _ (by omega) (fun _=>⟨b,off,n,cap,e1,rfl⟩) rfl,fun w' _=>by
  simp[execOp,ho,e2,hyv,Instr.indexAt,asIntOf,run_underlying (mJ hok hk),Instr.sureAddr,h0,h1,dR hokq,dQ,Nat.add_assoc]⟩
def MK(Z:ISeat)(S:IS)(t ty:Nat)(k:Ef→Option R)(d y:I):Option R:=rowOf Z ty fun q=>rowOf Z q.el fun q2=>match y with
 | .int .i64 i=>(match d with
   | .sl e l=>aW (Nat.beq q.k 3) (aW (Nat.beq q2.sz (sz e)) (aW (decide (0≤i)&&decide (i<l.length)) (k (vE t (.rp (IC e l i.toNat) 0)))))
   | .os s g=>live S s g (match S.own s with
     | .arr _ e l=>aW (Nat.beq q.k 3) (aW (Nat.beq q2.sz (sz e)) (aW (decide (0≤i)&&decide (i<l.length)) (k (vE t (.op s g (sz e) i.toNat 0)))))
     |_=>none)
   | .bx s g j=>live S s g (aW (Nat.beq q.k 2) (xb i (fun a=>k (vE t (.bx s g (j+a*q2.sz)))) q.ln 0))
   | .rp l j=>aW (Nat.beq q.k 2) (xb i (fun a=>k (vE t (.rp l (j+a*q2.sz)))) q.ln 0)
   | .op s g z n j=>live S s g (aW (Nat.beq q.k 2) (xb i (fun a=>k (vE t (.op s g z n (j+a*q2.sz)))) q.ln 0))
   |_=>none)
 |_=>none
theorem KO(hX:At X Z nt){ty:Nat}{x y:Operand}(ho:o.op= .indexAddr ty x y)(hd:o.dst=some t)(h:MK Z S t ty k (S.ev Z nt x) (S.ev Z nt y)=some r):∃e,k e=some r∧eS X Z nt o S e:=by
 have mx:x∈o.op.operands.toList:=by rw[ho];simp[Op.operands]
 have my:y∈o.op.operands.toList:=by rw[ho];simp[Op.operands]
 have hl2:lvl o=2:=by simp[lvl,ho]
 have hl1:lvl o≠0:=by rw[hl2];simp
 unfold MK at h
 obtain⟨q,hq,h9,h⟩:=cr h
 obtain⟨q2,hq2,h92,h⟩:=cr h
 have hq' :nth X.Z.dS ty=some q:=by rw[hX.Z];exact hq
 have hq2' :nth X.Z.dS q.el=some q2:=by rw[hX.Z];exact hq2
 split at h
 ·rename_i i hy
  split at h
  ·rename_i e l hx
   obtain⟨h3,h⟩:=ak h
   obtain⟨hz,h⟩:=ak h
   obtain⟨hi,h⟩:=ak h
   simp only[Bool.and_eq_true,decide_eq_true_eq]at hi
   refine⟨_,h,iN hd fun h T ha=> ?_⟩
   have:=cq ho (ha.ev mx hx) (ha.ev my hy) hi.1 (by simpa using hi.2) hq' h3 hq2' h92 (Nat.eq_of_beq_eq_true hz)
   simp only[I.bV,IC,aT]
   exact this
  ·rename_i s g hx
   replace h:=dp h
   obtain⟨rfl,h⟩:=h
   split at h
   ·rename_i E e l hσ
    obtain⟨h3,h⟩:=ak h
    obtain⟨hz,h⟩:=ak h
    obtain⟨hi,h⟩:=ak h
    simp only[Bool.and_eq_true,decide_eq_true_eq]at hi
    exact⟨_,h,iN hd fun h T ha=>lz ho (ha.ev mx hx) (ha.γ hl1 mx (gv hx)) ((ha.σ hl2 mx (gv hx)).trans (by rw[hσ];rfl)) (ha.ev my hy) hi.1 (by simpa using hi.2) hq' h3 hq2' h92 (Nat.eq_of_beq_eq_true hz)⟩
   ·cases h
  ·rename_i s g j hx
   replace h:=dp h
   obtain⟨rfl,h⟩:=h
   obtain⟨h2,h⟩:=ak h
   obtain⟨a,rfl,ha,h⟩:=oU h
   exact⟨_,h,iN hd fun h T hT=>by
    have:=cU ho (hT.ev mx hx) (hT.γ hl1 mx (rP hx)) (hT.ev my hy) (by omega) hq' h2 (by omega) hq2' h92
    simpa[I.bV]using this⟩
  ·rename_i l j hx
   obtain⟨h2,h⟩:=ak h
   obtain⟨a,rfl,ha,h⟩:=oU h
   exact⟨_,h,iN hd fun h T hT=>by
    have:=fT ho (hT.ev mx hx) (hT.ev my hy) (by omega) hq' h2 (by omega) hq2' h92
    simpa[I.bV]using this⟩
  ·rename_i s g z n j hx
   replace h:=dp h
   obtain⟨rfl,h⟩:=h
   obtain⟨h2,h⟩:=ak h
   obtain⟨a,rfl,ha,h⟩:=oU h
   exact⟨_,h,iN hd fun h T hT=>by
    have:=OJ ho (hT.ev mx hx) (hT.γ hl1 mx (uA hx)) (hT.ev my hy) (by omega) hq' h2 (by omega) hq2' h92
    simpa[I.bV]using this⟩
  ·cases h
 ·cases h
theorem OD{T:St}{ty:TypeId}{x y:Operand}{q q2:TRow}{l:List D}{d:D}{a:Int}(ho:o.op= .index ty x y)(hx:T.ev X x= .agg l)(hy:T.ev X y= .int .i64 a)(h0:0≤a)
 (hr:nth X.Z.dS ty=some q)(hk:Nat.beq q.k 2=true)(h1:a<q.ln)(hq:nth X.Z.dS q.el=some q2)(h9:Nat.beq q2.k 9=false)(hqk:(Nat.beq q2.k 1||Nat.beq q2.k 2)=false)(hm:nth l (a.toNat*q2.sz)=some d):eu X o T d:=fun κ sv ac w hs=>by
 have hok:=X.Z.tabOk _ _ hr (by intro e;rw[e]at hk;cases hk)
 have hokq:=X.Z.tabOk _ _ hq (by intro e;rw[e]at h9;cases h9)
 have hyv:=lx (hy▸hs.ev y)
 obtain⟨vs,e1,hl⟩:=qB hs hx
 obtain⟨iq,dq,hiq,hdq,hsq,_⟩:=cW hokq
 rw[dX]at hm
 obtain⟨v,hv,hrep⟩:=hl.get hm
 refine⟨v,hrep,fun w' _=> ?_⟩
 have hagg:(isAgg q.el).run X.Z.P w' = .ok false w' :=by rw[iW hdq,uU hokq,hqk]
 simp[execOp,ho,e1,hyv,Instr.index,asIntOf,run_underlying (mJ hok hk),h0,h1,dR hokq,part,hagg,hv]
def DA(s:ByteArray)(i:Nat)(k:Int→Option R):Option R:=match s[i]?with
 |some b=>k b.toNat
 |none=>none
theorem G0{s:ByteArray}{i:Nat}{k:Int→Option R}(h:DA s i k=some r):∃b:UInt8,s[i]? =some b∧k b.toNat=some r:=by
 unfold DA at h
 split at h
 ·exact⟨_,by assumption,h⟩
 ·cases h
def Nf(Z:ISeat)(t ty:Nat)(k:Ef→Option R)(d y:I):Option R:=match d,y with
 | .agg l, .int .i64 i=>rowOf Z ty fun q=>rowOf Z q.el fun q2=>aW (Nat.beq q.k 2) (xb i (fun a=>OV q2 t l (a*q2.sz) k) q.ln 0)
 | .str s, .int .i64 i=>aW (Z.isS ty) (aW (decide (0≤i)) (DA s i.toNat fun b=>k (vE t (.int .u8 b))))
 |_,_=>none
theorem L2(hX:At X Z nt){ty:Nat}{x y:Operand}(ho:o.op= .index ty x y)(hd:o.dst=some t)(h:Nf Z t ty k (S.ev Z nt x) (S.ev Z nt y)=some r):∃e,k e=some r∧eS X Z nt o S e:=by
 have mx:x∈o.op.operands.toList:=by rw[ho];simp[Op.operands]
 have my:y∈o.op.operands.toList:=by rw[ho];simp[Op.operands]
 unfold Nf at h
 split at h
 ·rename_i l i hx hy
  obtain⟨q,hq,h9,h⟩:=cr h
  obtain⟨q2,hq2,h92,h⟩:=cr h
  have hq' :nth X.Z.dS ty=some q:=by rw[hX.Z];exact hq
  have hq2' :nth X.Z.dS q.el=some q2:=by rw[hX.Z];exact hq2
  obtain⟨h2,h⟩:=ak h
  obtain⟨a,rfl,ha,h⟩:=oU h
  rcases Ay h with⟨hk,m,hm,h⟩|⟨hk,d,hm,h⟩
  ·exact⟨_,h,iN hd fun h T hT=>mN ho (hT.ev mx hx) (hT.ev my hy) (by omega) hq' h2 (by omega) hq2' hk (by rw[kM];simpa using kE h hm)⟩
  ·exact⟨_,h,iN hd fun h T hT=>OD ho (hT.ev mx hx) (hT.ev my hy) (by omega) hq' h2 (by omega) hq2' h92 hk (by simpa using iM h hm)⟩
 ·rename_i s i hx hy
  obtain⟨h1,h⟩:=ak h
  obtain⟨h2,h⟩:=ak h
  obtain⟨b,hb,h⟩:=G0 h
  exact⟨_,h,iN hd fun h T hT=>Nw ho (hT.ev mx hx) (hT.ev my hy) (by rw[hX.Z];exact Z.isS_ok _ h1) (of_decide_eq_true h2) hb⟩
 ·cases h
def Nm(S:IS)(t:Nat)(k:Ef→Option R):I→Option R
 | .bx s g j=>live S s g (k (vE t (.bx s g j)))
 | .rp l j=>k (vE t (.rp l j))
 | .op s g z i j=>live S s g (k (vE t (.op s g z i j)))
 |_=>none
theorem K5{x:Operand}(ho:o.op= .nilCheck x)(hd:o.dst=some t)(h:Nm S t k (S.ev Z nt x)=some r):∃e,k e=some r∧eS X Z nt o S e:=by
 have mx:x∈o.op.operands.toList:=by rw[ho];simp[Op.operands]
 have hl1:lvl o≠0:=by simp[lvl,ho]
 unfold Nm at h
 split at h
 ·rename_i s g j hx
  replace h:=dp h
  obtain⟨rfl,h⟩:=h
  exact⟨_,h,iN hd fun h T ha=>Pe ho (ha.ev mx hx) (ha.γ hl1 mx (rP hx))⟩
 ·rename_i l j hx
  exact⟨_,h,iN hd fun h T ha=>On ho (ha.ev mx hx)⟩
 ·rename_i s g z i j hx
  replace h:=dp h
  obtain⟨rfl,h⟩:=h
  exact⟨_,h,iN hd fun h T ha=>Ou ho (ha.ev mx hx) (ha.γ hl1 mx (uA hx))⟩
 ·cases h
def HU(Z:ISeat)(S:IS)(t:Nat)(ts:Array TypeId)(k:Ef→Option R)(d:I):Option R:=match ts[0]?with
 |some ty=>bif Z.isS ty then(match d with| .str b=>k (vE t (.int .i64 b.size))|_=>none)else rowOf Z ty fun q=>aW (Nat.beq q.k 3) (match d with
  | .sl _ l=>k (vE t (.int .i64 l.length))
  | .nil=>k (vE t (.int .i64 0))
  | .os s g=>live S s g (match S.own s with
    | .arr _ _ l=>k (vE t (.int .i64 l.length))
    |_=>none)
  |_=>none)
 |none=>none
theorem Ir(hX:At X Z nt){x:Operand}{ts:Array TypeId}(ho:o.op= .call {callee:= .builtin .len,args:= #[x],argTypes:=ts})(hd:o.dst=some t)(h:HU Z S t ts k (S.ev Z nt x)=some r):∃e,k e=some r∧eS X Z nt o S e:=by
 have mx:x∈o.op.operands.toList:=by rw[ho];simp[Op.operands,Call.operands]
 have hl2:lvl o=2:=by simp[lvl,ho]
 have hl1:lvl o≠0:=by rw[hl2];simp
 unfold HU at h
 split at h
 ·rename_i ty hT
  cases hS:Z.isS ty with
  |true=>
   rw[hS]at h
   simp only[cond_true]at h
   split at h
   ·rename_i b hx
    exact⟨_,h,iN hd fun h T ha=>NH ho hT (ha.ev mx hx) (by rw[hX.Z];exact Z.isS_ok _ hS)⟩
   ·cases h
  |false=>
  rw[hS]at h
  simp only[cond_false]at h
  obtain⟨q,hq,h9,h⟩:=cr h
  obtain⟨h3,h⟩:=ak h
  have hq' :nth X.Z.dS ty=some q:=by rw[hX.Z];exact hq
  split at h
  ·rename_i e l hx
   exact⟨_,h,iN hd fun h T ha=>bd ho hT (ha.ev mx hx) hq' h3⟩
  ·rename_i hx
   exact⟨_,h,iN hd fun h T ha=>OM ho hT (ha.ev mx hx) hq' h3⟩
  ·rename_i s g hx
   replace h:=dp h
   obtain⟨rfl,h⟩:=h
   split at h
   ·rename_i E e l hσ
    exact⟨_,h,iN hd fun h T ha=>jf ho hT (ha.ev mx hx) (ha.γ hl1 mx (gv hx)) ((ha.σ hl2 mx (gv hx)).trans (by rw[hσ];rfl)) hq' h3⟩
   ·cases h
  ·cases h
 ·cases h
def G8(t:Nat)(mx:Bool)(k:Ef→Option R):I→I→Option R
 | .int .i64 a, .int .i64 b=>bif mx then k (vE t (.int .i64 (max a b)))else k (vE t (.int .i64 (min a b)))
 |_,_=>none
theorem IA{x y:Operand}{ts:Array TypeId}(ho:o.op= .call {callee:= .builtin .min,args:= #[x,y],argTypes:=ts})(hd:o.dst=some t)(h:G8 t false k (S.ev Z nt x) (S.ev Z nt y)=some r):∃e,k e=some r∧eS X Z nt o S e:=by
 have mx:x∈o.op.operands.toList:=by rw[ho];simp[Op.operands,Call.operands]
 have my:y∈o.op.operands.toList:=by rw[ho];simp[Op.operands,Call.operands]
 unfold G8 at h
 split at h
 ·rename_i a b hx hy
  exact⟨_,h,iN hd fun h T ha=>kI ho (ha.ev mx hx) (ha.ev my hy)⟩
 ·cases h
theorem J3{x y:Operand}{ts:Array TypeId}(ho:o.op= .call {callee:= .builtin .max,args:= #[x,y],argTypes:=ts})(hd:o.dst=some t)(h:G8 t true k (S.ev Z nt x) (S.ev Z nt y)=some r):∃e,k e=some r∧eS X Z nt o S e:=by
 have mx:x∈o.op.operands.toList:=by rw[ho];simp[Op.operands,Call.operands]
 have my:y∈o.op.operands.toList:=by rw[ho];simp[Op.operands,Call.operands]
 unfold G8 at h
 split at h
 ·rename_i a b hx hy
  exact⟨_,h,iN hd fun h T ha=>dL ho (ha.ev mx hx) (ha.ev my hy)⟩
 ·cases h
theorem jq{h:Nat→Nat}{T:St}(ha:Ag X Z nt S h T o){l:List Operand}(hm:∀x∈l,x∈o.op.operands.toList):l.map (T.ev X)=I.ao h (l.map (S.ev Z nt)):=by
 rw[dO,List.map_map]
 exact List.map_congr_left fun x hx=>ha.ev (hm x hx) rfl
def MV(Z:ISeat)(nt:Nat)(S:IS)(t:Nat)(fn:Fn)(first cap:Array Operand)(k:Ef→Option R):Option R:=match fn with
 | .func f=>bif Nat.beq first.toList.length 0 then k (vE t (.fn f (cap.toList.map (S.ev Z nt))))else aW (Nat.beq cap.toList.length 0) (k (vE t (.mf f (first.toList.map (S.ev Z nt)))))
 |_=>none
theorem Bc{α:Type}{a:Array α}(h:Nat.beq a.toList.length 0=true):a= #[]:=by
 have:=Nat.eq_of_beq_eq_true h
 apply Array.eq_empty_of_size_eq_zero;simpa using this
theorem KT{fn:Fn}{first cap:Array Operand}(ho:o.op= .makeFunc fn first cap)(hd:o.dst=some t)(h:MV Z nt S t fn first cap k=some r):∃e,k e=some r∧eS X Z nt o S e:=by
 unfold MV at h
 split at h
 ·rename_i f
  cases hb:Nat.beq first.toList.length 0 with
  |true=>
   rw[hb]at h
   have e:=Bc hb
   subst e
   refine⟨_,h,iN hd fun h T ha=> ?_⟩
   have:=NL (X:=X) (S:=T) ho
   rw[jq ha (fun x hx=>by rw[ho];simpa[Op.operands]using hx)]at this
   exact this
  |false=>
   rw[hb]at h
   obtain⟨hb,h⟩:=ak h
   have e:=Bc hb
   subst e
   refine⟨_,h,iN hd fun h T ha=> ?_⟩
   have:=pO (X:=X) (S:=T) ho
   rw[jq ha (fun x hx=>by rw[ho];simpa[Op.operands]using hx)]at this
   exact this
 ·cases h
def I5(S:IS)(s:Nat)(l:List I):Ef:=⟨some s, .bx s (S.gen s+1) 0,some (s,S.gen s+1),some (s, .box l)⟩
theorem yZ{h:Nat→Nat}{T:St}{s:Nat}{l:List I}(hγ:T.γ s=h s+S.gen s):T.boxed s (I.ao h l)=T.app (I5 S s l).wr ((I5 S s l).vl h):=by
 unfold St.boxed St.app I5 Ef.wr Ef.vl
 rw[hγ];rfl
def Ow(S:IS)(t:Nat)(k:Ef→Option R)(d:I):Option R:=aW (vc d.cells) (k (I5 S t d.cells))
theorem Ky{ty:Nat}{x:Operand}(ho:o.op= .box ty x)(hd:o.dst=some t)(h:Ow S t k (S.ev Z nt x)=some r):∃e,k e=some r∧eS X Z nt o S e:=by
 have mx:x∈o.op.operands.toList:=by rw[ho];simp[Op.operands]
 unfold Ow at h
 obtain⟨hc,h⟩:=ak h
 refine⟨_,h,fun h T ha hg=> ?_⟩
 rw[←yZ (hg _ rfl),←gk]
 exact fm (Mj ho hd (ha.ev mx rfl) (by rw[gk,ie];exact hc))
def MT(Z:ISeat)(S:IS)(t ty:Nat)(k:Ef→Option R):Option R:=rowOf Z ty fun q=>k (I5 S t (q.zs.map zI))
theorem KD(hX:At X Z nt){ty:Nat}(ho:o.op= .alloc ty)(hd:o.dst=some t)(h:MT Z S t ty k=some r):∃e,k e=some r∧eS X Z nt o S e:=by
 unfold MT at h
 obtain⟨q,hq,h9,h⟩:=cr h
 refine⟨_,h,fun h T ha hg=> ?_⟩
 rw[←yZ (hg _ rfl),sj]
 exact fm (aP ho hd (by rw[hX.Z];exact hq) h9)
theorem dT(h:Nat→Nat):∀{l m:List I},dE l m→vA (I.ao h l) (I.ao h m)
 |_,_, .nil=>trivial
 |_,_, .cons (.same d) h2=>⟨.inl rfl,dT h h2⟩
 |_,_, .cons (.nsl t l) h2=>⟨(by cases l with|nil=>exact .inr ⟨rfl,sz t,fun i=>dk t (([]:List (den t)).getD i (dD t)),rfl⟩|cons=>exact .inl rfl),dT h h2⟩
 |_,_, .cons (.nil t) h2=>⟨.inr ⟨rfl,sz t,fun i=>dk t (([]:List (den t)).getD i (dD t)),rfl⟩,dT h h2⟩
def Kp(s:Nat)(ow:IOwn):Ef:=⟨none, .undef,none,some (s,ow)⟩
def MQ(Z:ISeat)(S:IS)(ty:Nat)(k:Ef→Option R)(p d:I):Option R:=rowOf Z ty fun q=>aW (vc d.cells) (aW (Nat.beq d.cells.length q.sz) (match p with
 | .bx s g j=>live S s g (match S.own s with
   | .box l=>(match eP l j d.cells with|some l' =>k (Kp s (.box l'))|none=>none)
   |_=>none)
 | .op s g z i j=>live S s g (match S.own s with
   | .arr E e l=>aW (Nat.beq z (sz e)) (aW (decide (i<l.length)) (match eP (IC e l i) j d.cells with
     |some l' =>(match fM e l' with|some x=>k (Kp s (.arr E e (l.set i x)))|none=>k (Kp s (.arrp E e l i l')))
     |none=>none))
   |_=>none)
 |_=>none))
theorem Kr(hX:At X Z nt){ty:Nat}{x y:Operand}(ho:o.op= .store ty x y)(hd:o.dst=none)(h:MQ Z S ty k (S.ev Z nt x) (S.ev Z nt y)=some r):∃e,k e=some r∧eS X Z nt o S e:=by
 have mx:x∈o.op.operands.toList:=by rw[ho];simp[Op.operands]
 have my:y∈o.op.operands.toList:=by rw[ho];simp[Op.operands]
 have hl2:lvl o=2:=by simp[lvl,ho]
 have hl1:lvl o≠0:=by rw[hl2];simp
 unfold MQ at h
 obtain⟨q,hq,h9,h⟩:=cr h
 obtain⟨hc,h⟩:=ak h
 obtain⟨hsz,h⟩:=ak h
 have hq' :nth X.Z.dS ty=some q:=by rw[hX.Z];exact hq
 have hsz:=Nat.eq_of_beq_eq_true hsz
 have hc' :∀h:Nat→Nat,aU ((S.ev Z nt y).bV h).cells=true:=fun h=>by rw[gk,ie];exact hc
 have hn' :∀h:Nat→Nat,((S.ev Z nt y).bV h).cells.length=q.sz:=fun h=>by rw[gk,eZ];exact hsz
 split at h
 ·rename_i s g j hx
  replace h:=dp h
  obtain⟨rfl,h⟩:=h
  split at h
  ·rename_i l hσ
   split at h
   ·rename_i l' hl
    refine⟨_,h,fun h T ha hg=> ?_⟩
    have:=bP ho (ha.ev mx hx) (ha.γ hl1 mx (rP hx)) ((ha.σ hl2 mx (rP hx)).trans (by rw[hσ];rfl)) (ha.ev my rfl) (hc' h) hq' h9 (hn' h) (by rw[gk];exact kT h hl) hd
    exact fm this
   ·cases h
  ·cases h
 ·rename_i s g z i j hx
  replace h:=dp h
  obtain⟨rfl,h⟩:=h
  split at h
  ·rename_i E e l hσ
   obtain⟨hz0,h2⟩:=ak h
   obtain⟨hi0,h3⟩:=ak h2
   clear h h2
   have hz:=Nat.eq_of_beq_eq_true hz0
   clear hz0
   subst hz
   have hi:=of_decide_eq_true hi0
   split at h3
   ·rename_i l' hl
    split at h3
    ·rename_i v hv
     refine⟨_,h3,fun h T ha hg=> ?_⟩
     have hσT:T.σ s= .arr E (sz e) l.length (fun i=>dk e (l.getD i (dD e))):=(ha.σ hl2 mx (uA hx)).trans (by rw[hσ];rfl)
     have:=lS ho (ha.ev mx hx) (ha.γ hl1 mx (uA hx)) hσT hi (ha.ev my rfl) (hc' h) hq' h9 (hn' h) (k:=I.ao h l') (by rw[gk,←aT h];exact kT h hl) hd
     refine xA.wk (fm this) ?_
     have hw:=zY (X:=X) (S:=⟨T.ρ,T.γ,bM T.σ s (.arr E (sz e) l.length (oP (fun i=>dk e (l.getD i (dD e))) i (I.ao h l')))⟩) s (E:=E) (z:=sz e) (n:=l.length) (f:=oP (fun i=>dk e (l.getD i (dD e))) i (I.ao h l')) (fun i' =>dk e ((l.set i v).getD i' (dD e))) (aj _ _ _) (fun i' hi' =>by
      by_cases e1:i' =i
      ·subst e1
       rw[tG,List.getD_eq_getElem?_getD,List.getElem?_set_self hi,←aT h]
       exact dT h (cL e hv)
      ·rw[A1 _ _ e1]
       rw[List.getD_eq_getElem?_getD,List.getD_eq_getElem?_getD,List.getElem?_set_ne (fun h=>e1 h.symm)]
       exact yI _)
     have e2:(⟨T.ρ,T.γ,bM (bM T.σ s (.arr E (sz e) l.length (oP (fun i=>dk e (l.getD i (dD e))) i (I.ao h l')))) s (.arr E (sz e) l.length (fun i' =>dk e ((l.set i v).getD i' (dD e))))⟩:St)=T.app (Kp s (.arr E e (l.set i v))).wr ((Kp s (.arr E e (l.set i v))).vl h):=by
      unfold St.app Kp Ef.wr Ef.vl
      simp only[Option.map_some,Option.map_none,qZ,IOwn.bq,List.length_set]
      congr 1
      funext j
      simp only[bM]
      cases Nat.beq j s<;>rfl
     rw[e2]at hw
     exact hw
    ·refine⟨_,h3,fun h T ha hg=> ?_⟩
     have hσT:T.σ s= .arr E (sz e) l.length (fun i=>dk e (l.getD i (dD e))):=(ha.σ hl2 mx (uA hx)).trans (by rw[hσ];rfl)
     have:=lS ho (ha.ev mx hx) (ha.γ hl1 mx (uA hx)) hσT hi (ha.ev my rfl) (hc' h) hq' h9 (hn' h) (k:=I.ao h l') (by rw[gk,←aT h];exact kT h hl) hd
     exact fm this
   ·cases h3
  ·cases h
 ·cases h
end
end Go.Ab
