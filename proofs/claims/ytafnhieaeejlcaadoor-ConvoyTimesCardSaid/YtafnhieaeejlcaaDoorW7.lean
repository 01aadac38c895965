/- Walks by computing: what each function of the program that the laws reach gives for what it gets, as plain Lean, and that it is so; without a condition but those that stand in each theorem. -/
import Derived.Test.YtafnhieaeejlcaaDoorW1
import Derived.Test.YtafnhieaeejlcaaDoorW2
import Derived.Test.YtafnhieaeejlcaaDoorW3
import Derived.Test.YtafnhieaeejlcaaDoorW4
import Derived.Test.YtafnhieaeejlcaaDoorW5
import Derived.Test.YtafnhieaeejlcaaDoorW6
set_option linter.all false
namespace Go.Ab
open Go Go.RowKit
set_option linter.all false
inductive IOwn where
 |none
 |box (l:List I)
 |arr (E:TypeId) (t:T) (l:List (den t))
 |arrp (E:TypeId) (t:T) (l:List (den t)) (i:Nat) (row:List I)
 |mp (l:List (Int×Int))
def IOwn.bz(h:Nat→Nat):IOwn→Own
 | .none=> .none
 | .box l=> .box (I.av h l)
 | .arr E t l=> .arr E (sz t) l.length (fun i=>dk t (l.getD i (dC t)))
 | .arrp E t l i row=> .arr E (sz t) l.length (nV (fun i=>dk t (l.getD i (dC t))) i (I.av h row))
 | .mp l=> .mp l
structure IS where
 rs:List (Nat×I)
 gs:List (Nat×Nat)
 os:List (Nat×IOwn)
def IS.get(S:IS)(t:Nat):I:=look .undef S.rs t
def IS.gen(S:IS)(s:Nat):Nat:=look 0 S.gs s
def IS.own(S:IS)(s:Nat):IOwn:=look .none S.os s
def IS.aJ(h:Nat→Nat)(S:IS):St:=⟨fun t=>(S.get t).b8 h,fun s=>h s+S.gen s,fun s=>(S.own s).bz h⟩
structure ISeat extends Seat where
 gI:Nat→Option (List I)
 gI_ok:∀g h,toSeat.glob g=(gI g).map (I.av h)
 ty:Nat→Option T
 ty_ok:∀E t q,ty E=some t→nth toSeat.dS E=some q→Nat.beq q.k 9=false∧q.sz=sz t∧q.zs.length=sz t
 ik:Nat→Option IntKind
 ik_ok:∀t k,ik t=some k→toSeat.P.underlying t=some (.int k)
 isB:Nat→Bool
 isB_ok:∀t,isB t=true→toSeat.P.underlying t=some .bool
 isF:Nat→Bool
 isF_ok:∀t,isF t=true→∃d,toSeat.P.underlying t=some d∧mb toSeat.P t=false
 isS:Nat→Bool
 isS_ok:∀t,isS t=true→toSeat.P.underlying t=some .string
 isM:Nat→Bool
 isM_ok:∀t,isM t=true→zo toSeat.P t
def NG:Value→I
 | .int k n=> .int k n
 | .bool b=> .bool b
 | .string s=> .str s
 | .slice none 0 0=> .nil
 |_=> .undef
def MP:Value→I
 | .agg cs=> .agg (cs.toList.map NG)
 |v=>NG v
def IS.ev(Z:ISeat)(nt:Nat)(S:IS):Operand→I
 | .tmp t=>bif Nat.blt t nt then S.get t else .undef
 | .const v=>MP v
 | .global g=>match Z.gI g with|some l=> .rp l 0|none=> .undef
 | .func f=> .fn f []
theorem eD(h:Nat→Nat):∀l:List I,I.av h l=l.map (I.b8 h)
 |[]=>rfl
 |d::l=>by simp only[I.av,List.map_cons,eD h l]
theorem Gy(h:Nat→Nat)(v:Value):(NG v).b8 h=OR v:=by
 cases v<;>try rfl
 rename_i a n c
 cases a<;>cases n<;>cases c<;>rfl
theorem Ks(h:Nat→Nat)(v:Value):(MP v).b8 h=Py v:=by
 cases hv:v with
 |agg cs=>
  simp only[MP,Py,I.b8,eD,List.map_map]
  congr 1
  exact List.map_congr_left fun x _=>Gy h x
 |_=>(try rfl)<;>(rw[←hv];have:=Gy h v;rw[hv]at this⊢;exact this)
structure Ef where
 t:Option Nat
 d:I
 g:Option (Nat×Nat)
 o:Option (Nat×IOwn)
def Ef.wr(e:Ef):Wr:=⟨e.t,e.g.map (·.1),e.o.map (·.1)⟩
def Ef.vl(h:Nat→Nat)(e:Ef):Vl:=⟨e.d.b8 h,match e.g with|some p=>h p.1+p.2|none=>0,match e.o with|some p=>p.2.bz h|none=> .none⟩
def IS.lu(S:IS)(e:Ef):IS:=
 ⟨match e.t with|some t=>(t,e.d)::S.rs|none=>S.rs,match e.g with|some p=>p::S.gs|none=>S.gs,match e.o with|some p=>p::S.os|none=>S.os⟩
theorem po{α β:Type}(f:α→β)(e:α)(i:Nat)(a:α)(l:List (Nat×α)):(fun j=>f (look e ((i,a)::l) j))=bN (fun j=>f (look e l j)) i (f a):=by
 funext j
 simp only[look,bN]
 cases Nat.beq j i<;>rfl
theorem fD(h:Nat→Nat)(S:IS)(e:Ef):(S.lu e).aJ h=(S.aJ h).app e.wr (e.vl h):=by
 obtain⟨t,d,g,o⟩:=e
 unfold IS.aJ St.app IS.lu Ef.wr Ef.vl
 congr 1
 ·cases t with
  |none=>rfl
  |some t=>exact po (I.b8 h) .undef t d S.rs
 ·cases g with
  |none=>rfl
  |some p=>
   funext j
   simp only[IS.gen,look,Option.map_some,qV,bN]
   cases hb:Nat.beq j p.1 with
   |false=>rfl
   |true=>have:=Nat.eq_of_beq_eq_true hb;subst this;rfl
 ·cases o with
  |none=>rfl
  |some p=>exact po (IOwn.bz h) .none p.1 p.2 S.os
mutual
def np:I→List Nat
 | .bx s _ _=>[s]
 | .os s _=>[s]
 | .op s _ _ _ _=>[s]
 | .ow s _ _ _ _=>[s]
 | .agg l=>fm l
 | .tup l=>fm l
 | .fn _ l=>fm l
 | .mf _ l=>fm l
 |_=>[]
def fm:List I→List Nat
 |[]=>[]
 |d::l=>np d++fm l
end
mutual
theorem zL(h:Nat→Nat):∀d:I,xo (d.b8 h)=np d
 | .int _ _=>rfl| .bool _=>rfl| .str _=>rfl| .sl _ _=>rfl| .nsl _ l=>(by cases l<;>rfl)| .nil=>rfl| .rp _ _=>rfl| .bx _ _ _=>rfl| .os _ _=>rfl| .op _ _ _ _ _=>rfl| .ow _ _ _ _ _=>rfl| .yl _=>rfl| .one=>rfl| .undef=>rfl
 | .agg l=>qT h l
 | .tup l=>qT h l
 | .fn _ l=>qT h l
 | .mf _ l=>qT h l
theorem qT(h:Nat→Nat):∀l:List I,B1 (I.av h l)=fm l
 |[]=>rfl
 |d::l=>by simp only[I.av,B1,fm,zL h d,qT h l]
end
def u6(Z:ISeat)(nt:Nat)(S:IS):List Operand→List Nat
 |[]=>[]
 |x::l=>np (S.ev Z nt x)++u6 Z nt S l
def Qr(Z:ISeat)(nt:Nat)(S:IS)(o:Oper):Lc:=
 ⟨slotsOf o.op.operands.toList,(match lvl o with|0=>[]|_=>u6 Z nt S o.op.operands.toList),(match lvl o with|0=>[]|1=>[]|_=>u6 Z nt S o.op.operands.toList)⟩
def xT(X:Ctx)(o:Oper)(T T' :St):Prop:=∀κ sv a w,dh X κ sv T a w→∀K Qw,(∀κ' sv' a' w',dh X κ' sv' T' a' w'→K a' w')→o.wpIn X.F 0 X.Z.P a w K Qw
abbrev xK(X:Ctx):Prop:=∀p,X.xa p=true→XB≤p
structure At (X:Ctx) (Z:ISeat) (nt:Nat):Prop where
 Z:X.Z=Z.toSeat
 nt:X.nt=nt
 xa:∀p,X.xa p=true→XB≤p
theorem At.pl{X:Ctx}{Z:ISeat}{nt:Nat}(h1:X.Z=Z.toSeat)(h2:X.nt=nt)(h3:∀p,X.xa p=false):At X Z nt:=⟨h1,h2,fun p h=>by rw[h3 p]at h;cases h⟩
section
variable {X:Ctx} {Z:ISeat} {nt:Nat} {S:IS} {o:Oper} {h:Nat→Nat} {T:St}
theorem dJ(hX:At X Z nt)(x:Operand):(S.aJ h).ev X x=(S.ev Z nt x).b8 h:=by
 cases x with
 |tmp t=>
  simp only[St.ev,IS.ev,hX.nt]
  cases Nat.blt t nt<;>rfl
 |const v=>exact(Ks h v).symm
 |func f=>rfl
 |global g=>
  simp only[St.ev,IS.ev,hX.Z]
  rw[Z.gI_ok g h]
  cases Z.gI g<;>rfl
theorem CA(hX:At X Z nt):∀l:List Operand,He X (S.aJ h) l=u6 Z nt S l
 |[]=>rfl
 |x::l=>by simp only[He,u6,dJ hX,zL,CA hX l]
theorem Ll(hX:At X Z nt):mB X (S.aJ h) o=Qr Z nt S o:=by
 simp only[mB,Qr,CA hX]
 cases lvl o with
 |zero=>rfl
 |succ n=>cases n<;>rfl
structure Ag (X:Ctx) (Z:ISeat) (nt:Nat) (S:IS) (h:Nat→Nat) (T:St) (o:Oper):Prop where
 at' :At X Z nt
 agr:lL (mB X (S.aJ h) o) (S.aJ h) T
theorem Ag.ev(ha:Ag X Z nt S h T o){x:Operand}(hx:x∈o.op.operands.toList){d:I}(hd:S.ev Z nt x=d):T.ev X x=d.b8 h:=by
 rw[jy ha.agr hx,dJ ha.at',hd]
theorem Ag.γ(ha:Ag X Z nt S h T o)(hl:lvl o≠0){x:Operand}(hx:x∈o.op.operands.toList){s:Nat}(hs:s∈np (S.ev Z nt x)):T.γ s=h s+S.gen s:=
 rj ha.agr hl hx (by rw[dJ ha.at',zL];exact hs)
theorem Ag.σ(ha:Ag X Z nt S h T o)(hl:lvl o=2){x:Operand}(hx:x∈o.op.operands.toList){s:Nat}(hs:s∈np (S.ev Z nt x)):T.σ s=(S.own s).bz h:=
 sB ha.agr hl hx (by rw[dJ ha.at',zL];exact hs)
theorem Ag.self(hX:At X Z nt):Ag X Z nt S h (S.aJ h) o:=⟨hX,⟨fun _ _=>rfl,fun _ _=>rfl,fun _ _=>rfl⟩⟩
def eP(X:Ctx)(Z:ISeat)(nt:Nat)(o:Oper)(S:IS)(e:Ef):Prop:=∀h T,Ag X Z nt S h T o→(∀p,e.g=some p→T.γ p.1=h p.1+S.gen p.1)→xT X o T (T.app e.wr (e.vl h))
theorem Nj{d:D}{t:Nat}{g:Nat}{ow:Own}(hd:o.dst=some t)(hq:eh X o T d):xT X o T (T.app ⟨some t,none,none⟩ ⟨d,g,ow⟩):=fun κ sv a w hs K Qw hK=>by
 obtain⟨v,h1,h2⟩:=hq κ sv a w hs
 refine mQ (h2 w (Below.refl _ _)) ?_
 rw[hd]
 exact hK κ sv _ _ (hs.put (some t) h1)
theorem fo{T' :St}(hn:kL X o T T'):xT X o T T' :=fun κ sv a w hs K Qw hK=>by
 obtain⟨v,w',κ',sv',h1,h2⟩:=hn κ sv a w hs
 rcases h1 with h1|⟨h1,rfl⟩
 ·exact mQ h1 (hK κ' sv' _ _ h2)
 ·exact zZ h1 (hK κ' sv' _ _ h2)
theorem xT.wk{T1 T2:St}(h1:xT X o T T1)(hw:Wk X T1 T2):xT X o T T2:=fun κ sv a w hs K Qw hK=>
 h1 κ sv a w hs K Qw fun κ' sv' a' w' hs' =>
  let⟨κ2,sv2,hs2⟩:=hw κ' sv' a' w' hs'
  hK κ2 sv2 a' w' hs2
def vE(t:Nat)(d:I):Ef:=⟨some t,d,none,none⟩
theorem iK{d:I}{t:Nat}(hd:o.dst=some t)(hq:∀h T,Ag X Z nt S h T o→eh X o T (d.b8 h)):eP X Z nt o S (vE t d):=fun h T ha _=>Nj hd (hq h T ha)
end
def aP{R:Type}(b:Bool)(r:Option R):Option R:=bif b then r else none
theorem ai{R:Type}{b:Bool}{r:Option R}{x:R}(h:aP b r=some x):b=true∧r=some x:=by
 cases b with
 |true=>exact⟨rfl,h⟩
 |false=>cases h
section
variable {α β:Type}
def pU:Nat→List α→Option (List α)
 |0,_=>some []
 |n+1,d::l=>match pU n l with
  |some m=>some (d::m)
  |none=>none
 |_+1,[]=>none
def qS:Nat→List α→List α
 |0,l=>l
 |n+1,_::l=>qS n l
 |_+1,[]=>[]
def eO:List α→Nat→List α→Option (List α)
 |l,0,[]=>some l
 |_::l,0,d::m=>match eO l 0 m with
  |some k=>some (d::k)
  |none=>none
 |x::l,j+1,m=>match eO l j m with
  |some k=>some (x::k)
  |none=>none
 |[],_,_=>none
def Hg(pl:Nat→Option (Nat×Nat)):List α→List (Nat×List α)→Option (List α)
 |l,[]=>some l
 |l,(i,m)::rest=>match pl i with
  |some (off,sz)=>bif Nat.beq m.length sz then(match eO l off m with|some l' =>Hg pl l' rest|none=>none)else none
  |none=>none
end
theorem j8(h:Nat→Nat):∀{n:Nat} {l m:List I},pU n l=some m→takeN n (I.av h l)=some (I.av h m)
 |0,l,m,e=>by simp[pU]at e;subst e;rfl
 |n+1,[],m,e=>by simp[pU]at e
 |n+1,d::l,m,e=>by
  unfold pU at e
  cases h1:pU n l with
  |none=>rw[h1]at e;cases e
  |some m' =>
   rw[h1]at e
   simp only[Option.some.injEq]at e
   subst e
   simp only[I.av,takeN,j8 h h1]
theorem kv(h:Nat→Nat):∀(n:Nat) (l:List I),jB n (I.av h l)=I.av h (qS n l)
 |0,l=>by simp[jB,qS]
 |n+1,[]=>by simp[jB,qS,I.av]
 |n+1,d::l=>by simp only[I.av,jB,qS,kv h n l]
theorem kC(h:Nat→Nat):∀{l m k:List I} {j:Nat},eO l j m=some k→fM (I.av h l) j (I.av h m)=some (I.av h k)
 |l,[],k,0,e=>by
  cases l<;>(simp[eO]at e;subst e;simp[I.av,fM])
 |[],m,k,j+1,e=>by simp[eO]at e
 |[],d::m,k,0,e=>by simp[eO]at e
 |x::l,d::m,k,0,e=>by
  unfold eO at e
  cases h1:eO l 0 m with
  |none=>rw[h1]at e;cases e
  |some k' =>
   rw[h1]at e
   simp only[Option.some.injEq]at e
   subst e
   simp only[I.av,fM,kC h h1]
 |x::l,m,k,j+1,e=>by
  unfold eO at e
  cases h1:eO l j m with
  |none=>rw[h1]at e;cases e
  |some k' =>
   rw[h1]at e
   simp only[Option.some.injEq]at e
   subst e
   have:=kC h h1
   cases m<;>simp only[I.av,fM]at this⊢<;>rw[this]
theorem eT(h:Nat→Nat)(l:List I):(I.av h l).length=l.length:=by simp[eD]
theorem z6(h:Nat→Nat)(pl:Nat→Option (Nat×Nat)):∀{ps:List (Nat×List I)} {l k:List I},Hg pl l ps=some k→xP pl (I.av h l) (ps.map fun p=>(p.1,I.av h p.2))=some (I.av h k)
 |[],l,k,e=>by simp[Hg]at e;subst e;rfl
 |(i,m)::ps,l,k,e=>by
  simp only[Hg]at e
  simp only[List.map_cons,xP,eT]
  cases hp:pl i with
  |none=>rw[hp]at e;cases e
  |some q=>
   obtain⟨off,sz⟩:=q
   rw[hp]at e
   simp only at e⊢
   cases hb:Nat.beq m.length sz with
   |false=>rw[hb]at e;cases e
   |true=>
    rw[hb]at e
    simp only[cond_true]at e⊢
    cases ho:eO l off m with
    |none=>rw[ho]at e;cases e
    |some l' =>
     rw[ho]at e
     rw[kC h ho]
     exact z6 h pl e
theorem il(h:Nat→Nat):∀{l:List I} {n:Nat} {d:I},nth l n=some d→nth (I.av h l) n=some (d.b8 h)
 |[],n,d,e=>by simp[nth]at e
 |x::l,0,d,e=>by simp[nth]at e;subst e;rfl
 |x::l,n+1,d,e=>by simp only[nth]at e;simp only[I.av,nth];exact il h e
def I.je:I→Bool
 | .agg _| .tup _| .undef=>false
 |_=>true
def I.cells:I→List I
 | .agg l=>l
 |d=>[d]
def wa:List I→Bool
 |[]=>true
 |d::l=>d.je&&wa l
theorem Ew(h:Nat→Nat)(d:I):(d.b8 h).je=d.je:=by cases d<;>first|rfl|(rename_i l;cases l<;>rfl)
theorem gU(h:Nat→Nat):∀l:List I,aV (I.av h l)=wa l
 |[]=>rfl
 |d::l=>by simp only[I.av,aV,wa,Ew,gU h l]
theorem fY(h:Nat→Nat)(d:I):(d.b8 h).cells=I.av h d.cells:=by cases d<;>first|rfl|(rename_i l;cases l<;>rfl)
def zI:Zr→I
 | .i k=> .int k 0
 | .b=> .bool false
 | .s=> .str ⟨#[]⟩
 | .sl=> .nil
 | .o=> .one
theorem rW(h:Nat→Nat):∀zs:List Zr,I.av h (zs.map zI)=zs.map Zr.b8
 |[]=>rfl
 |z::zs=>by simp only[List.map_cons,I.av,rW h zs];cases z<;>rfl
end Go.Ab
namespace Go.Ab
open Go Go.RowKit
set_option linter.all false
set_option maxHeartbeats 1000000
section
variable {R:Type} {X:Ctx} {Z:ISeat} {nt:Nat} {S:IS} {o:Oper} {r:R} {k:Ef→Option R} {t:Nat}
def isNil:Operand→Bool
 | .const (.slice none 0 0)=>true
 |_=>false
theorem B6{x:Operand}(h:isNil x=true):x= .const (.slice none 0 0):=by
 unfold isNil at h
 split at h
 ·rfl
 ·cases h
def PG(Z:ISeat)(ty:Nat):Option (Nat×T):=match nth Z.dS ty with
 |some r=>bif Nat.beq r.k 3 then(match Z.ty r.el with|some t=>some (r.el,t)|none=>none)else none
 |none=>none
def qL(S:IS)(t s:Nat)(ow:IOwn):Ef:=⟨some t, .os s (S.gen s+1),some (s,S.gen s+1),some (s,ow)⟩
theorem fG{h:Nat→Nat}{T:St}{t s:Nat}{ow:IOwn}(hγ:T.γ s=h s+S.gen s):T.owned t s (ow.bz h)=T.app (qL S t s ow).wr ((qL S t s ow).vl h):=by
 unfold St.owned St.app qL Ef.wr Ef.vl
 rw[hγ];rfl
theorem P8{T:St}{x:Operand}{E z:Nat}{f:Nat→List D}(ho:o.op= .move x∨o.op= .assign x)(hd:o.dst=some t)(hx:x= .const (.slice none 0 0)):kL X o T (T.owned t t (.arr E z 0 f)):=fun κ sv a w hs=>by
 subst hx
 refine⟨.slice none 0 0,w,κ,bN sv t (.slice none 0 0), .inl ?_, ?_⟩
 ·rcases ho with ho|ho<;>simp[execOp,ho,Act.eval]
 ·rw[hd]
  exact dY hs t t (pv:= .slice none 0 0) (ow:= .arr E z 0 f) rfl (bL (Below.refl _ _) _) (fun b hb=>by cases hb)
   ⟨[],by rw[aj];exact gR _ _ _ _,fun _ h=>by omega,fun _ h=>by omega,fun _ h=>by omega⟩
def Kt(Z:ISeat)(nt:Nat)(S:IS)(ty:Nat)(t:Nat)(x:Operand)(k:Ef→Option R):Option R:=
 bif isNil x then(match PG Z ty with|some p=>k (qL S t t (.arr p.1 p.2 []))|none=>k (vE t .nil))else k (vE t (S.ev Z nt x))
theorem Fc{x:Operand}{ty:Nat}(ho:o.op= .move x∨o.op= .assign x)(hd:o.dst=some t)(h:Kt Z nt S ty t x k=some r):∃e,k e=some r∧eP X Z nt o S e:=by
 have q:eP X Z nt o S (vE t (S.ev Z nt x)):=iK hd fun h T ha=>by
  rcases ho with ho|ho
  ·exact lv ho (ha.ev (by rw[ho];simp[Op.operands]) rfl)
  ·exact gB ho (ha.ev (by rw[ho];simp[Op.operands]) rfl)
 unfold Kt at h
 cases hn:isNil x with
 |false=>rw[hn]at h;exact⟨_,h,q⟩
 |true=>
  rw[hn]at h
  have hx:=B6 hn
  simp only[cond_true]at h
  cases hs:PG Z ty with
  |none=>
   rw[hs]at h
   have:S.ev Z nt x= .nil:=by rw[hx];rfl
   rw[this]at q
   exact⟨_,h,q⟩
  |some p=>
   rw[hs]at h
   refine⟨_,h,fun h T ha hg=> ?_⟩
   rw[←fG (hg _ rfl)]
   exact fo (P8 ho hd hx)
theorem DW{x:Operand}(ho:o.op= .move x∨o.op= .assign x)(hd:o.dst=some t)(hn:isNil x=true)(h:k (vE t .nil)=some r):∃e,k e=some r∧eP X Z nt o S e:=by
 have hx:=B6 hn
 have q:eP X Z nt o S (vE t (S.ev Z nt x)):=iK hd fun h T ha=>by
  rcases ho with ho|ho
  ·exact lv ho (ha.ev (by rw[ho];simp[Op.operands]) rfl)
  ·exact gB ho (ha.ev (by rw[ho];simp[Op.operands]) rfl)
 have:S.ev Z nt x= .nil:=by rw[hx];rfl
 rw[this]at q
 exact⟨_,h,q⟩
def Ot(Z:ISeat)(nt:Nat)(S:IS)(t:Nat)(c x y:Operand)(k:Ef→Option R):Option R:=match S.ev Z nt c with
 | .bool b=>bif b then k (vE t (S.ev Z nt x))else k (vE t (S.ev Z nt y))
 |_=>none
theorem KM{c x y:Operand}(ho:o.op= .pick c x y)(hd:o.dst=some t)(h:Ot Z nt S t c x y k=some r):∃e,k e=some r∧eP X Z nt o S e:=by
 unfold Ot at h
 split at h
 ·rename_i b hb
  cases b with
  |true=>exact⟨_,h,iK hd fun h T ha=>Fm ho (ha.ev (by rw[ho];simp[Op.operands]) hb) (ha.ev (by rw[ho];simp[Op.operands]) rfl)⟩
  |false=>exact⟨_,h,iK hd fun h T ha=>Ft ho (ha.ev (by rw[ho];simp[Op.operands]) hb) (ha.ev (by rw[ho];simp[Op.operands]) rfl)⟩
 ·cases h
def zh:Nat→Nat:=fun _=>0
theorem FA(h:Nat→Nat):∀{l m:List I} {b:Bool},jX (I.av zh l) (I.av zh m)=some b→jX (I.av h l) (I.av h m)=some b
 |[],[],b,e=>e
 |[],_::_,b,e=>by simp[I.av,jX]at e
 |x::l,[],b,e=>by cases x<;>first|(simp[I.av,I.b8,jX,Kg]at e;done)|(simp only[I.av,I.b8,OQ]at e;split at e<;>simp[jX,Kg]at e)
 |x::l,y::m,b,e=>by
  cases x<;>cases y<;>(try (simp only[I.av,I.b8,OQ]at e;repeat' split at e)<;>(simp[jX,Kg]at e;done))<;>simp only[I.av,I.b8,jX,Kg]at e⊢<;>try (cases e;done)
  ·cases hk:(_:IntKind)==_ with
   |false=>simp[hk]at e
   |true=>
    simp only[hk]at e⊢
    cases hr:jX (I.av zh l) (I.av zh m)with
    |none=>rw[hr]at e;simp at e
    |some r=>rw[hr]at e;rw[FA h hr];exact e
  ·cases hr:jX (I.av zh l) (I.av zh m)with
   |none=>rw[hr]at e;simp at e
   |some r=>rw[hr]at e;rw[FA h hr];exact e
theorem Hh(h:Nat→Nat)(P:Program)(f:Field)(d:I):rk P f (d.b8 h)=rk P f (d.b8 zh):=by cases d<;>first|rfl|(rename_i l;cases l<;>rfl)
theorem wq(h:Nat→Nat)(P:Program):∀(fs:List Field) (l:List I) (n:Nat),iC P fs (I.av h l) n=iC P fs (I.av zh l) n
 |[],[],n=>rfl
 |[],_::_,n=>rfl
 |_::_,[],n=>rfl
 |f::fs,d::l,n=>by simp only[I.av,iC,Hh h,wq h P fs l]
theorem EL(h:Nat→Nat)(P:Program)(ty:TypeId)(l:List I):oM P ty (I.av h l)=oM P ty (I.av zh l):=by
 unfold oM
 split
 ·rw[wq]
 ·rfl
theorem ub(h:Nat→Nat)(P:Program):∀(fs:List Field) (l:List I) (n:Nat),g9 P fs (I.av h l) n=g9 P fs (I.av zh l) n
 |[],[],n=>rfl
 |[],_::_,n=>rfl
 |f::fs,l,n=>by
  have e1:∀h:Nat→Nat,∀(l:List I) k,(I.av h l).take k=I.av h (l.take k):=fun h l k=>by simp[eD,List.map_take]
  have e2:∀h:Nat→Nat,∀(l:List I) k,(I.av h l).drop k=I.av h (l.drop k):=fun h l k=>by simp[eD,List.map_drop]
  have e3:∀(l:List I),(I.av h l).length=(I.av zh l).length:=fun l=>by simp[eD]
  simp only[g9,e1,e2,EL h,e3,ub h P fs]
theorem EM(h:Nat→Nat)(P:Program)(ty:TypeId)(l:List I):pZ P ty (I.av h l)=pZ P ty (I.av zh l):=by
 unfold pZ AV
 rw[EL]
 split
 ·rw[ub]
 ·rfl
def Im(Z:ISeat)(t:Nat)(op:BinOp)(ty:TypeId)(k:Ef→Option R):I→I→Option R
 | .int k1 m, .int k2 n=>match op with
   | .eql=>aP (decide (k1=k2)) (k (vE t (.bool (m==n))))
   | .neq=>aP (decide (k1=k2)) (k (vE t (.bool (m !=n))))
   | .lss=>aP (decide (k1=k2)) (k (vE t (.bool (decide (m<n)))))
   | .leq=>aP (decide (k1=k2)) (k (vE t (.bool (decide (m≤n)))))
   | .gtr=>aP (decide (k1=k2)) (k (vE t (.bool (decide (m>n)))))
   | .geq=>aP (decide (k1=k2)) (k (vE t (.bool (decide (m≥n)))))
   | .add=>aP (decide (k1=k2)) (k (vE t (.int k1 (k1.wrap (m+n)))))
   | .sub=>aP (decide (k1=k2)) (k (vE t (.int k1 (k1.wrap (m-n)))))
   | .mul=>aP (decide (k1=k2)) (k (vE t (.int k1 (k1.wrap (m*n)))))
   | .quo=>aP (decide (k1=k2)) (aP (n !=0) (k (vE t (.int k1 (k1.wrap (m.tdiv n))))))
   | .rem=>aP (decide (k1=k2)) (aP (n !=0) (k (vE t (.int k1 (m.tmod n)))))
   | .xor=>aP (decide (k1=k2)) (k (vE t (.int k1 (k1.wrap (BitVec.ofInt k1.bits m^^^BitVec.ofInt k1.bits n).toNat))))
   | .and=>aP (decide (k1=k2)) (k (vE t (.int k1 (k1.wrap (BitVec.ofInt k1.bits m&&&BitVec.ofInt k1.bits n).toNat))))
   | .andNot=>aP (decide (k1=k2)) (k (vE t (.int k1 (k1.wrap (BitVec.ofInt k1.bits m&&& ~~~BitVec.ofInt k1.bits n).toNat))))
   | .shr=>aP (decide (0≤n)) (k (vE t (.int k1 (m.fdiv (2^(min n.toNat k1.bits))))))
   | .shl=>aP (decide (0≤n)) (k (vE t (.int k1 (k1.wrap (m*2^(min n.toNat k1.bits))))))
   |_=>none
 | .bool a, .bool b=>match op with
   | .eql=>aP (Z.isB ty) (k (vE t (.bool (a==b))))
   | .neq=>aP (Z.isB ty) (k (vE t (.bool (!(a==b)))))
   |_=>none
 | .str a, .str b=>(match op with
   | .eql=>k (vE t (.bool (a.toList==b.toList)))
   | .neq=>k (vE t (.bool (!(a.toList==b.toList))))
   |_=>none)
 | .agg l, .agg m=>aP (pZ Z.P ty (I.av zh l)) (match jX (I.av zh l) (I.av zh m)with
   |some b=>(match op with
    | .eql=>k (vE t (.bool b))
    | .neq=>k (vE t (.bool (!b)))
    |_=>none)
   |none=>none)
 | .nsl _ l, .nil=>(match op with
   | .eql=>(match nth Z.dS ty with
     |some q=>aP (Nat.beq q.k 3) (k (vE t (.bool l.isEmpty)))
     |none=>none)
   |_=>none)
 |_,_=>none
theorem JQ{T:St}{ty ty2:TypeId}{x y:Operand}{u:Go.Ab.T}{l:List (den u)}{q:TRow}(ho:o.op= .binOp .eql ty x y ty2)(hr:nth X.Z.dS ty=some q)(hk:Nat.beq q.k 3=true)(hx:T.ev X x=OQ u l)(hy:T.ev X y= .nil):eh X o T (.bool l.isEmpty):=fun κ sv a w hs=>by
 have hu:=cW (X.Z.tabOk _ _ hr (by intro e;rw[e]at hk;cases hk)) hk
 have h1:=hs.ev x
 rw[hx]at h1
 have h2:=hs.ev y
 rw[hy]at h2
 generalize hxe:a.eval x=xv at h1
 generalize hye:a.eval y=yv at h2
 cases h2
 refine⟨.bool l.isEmpty, .bool _,fun w' _=> ?_⟩
 cases l with
 |nil=>
  cases h1
  simp[execOp,ho,hxe,hye,eqGuard,lP hu]
 |cons b l=>
  have h1:cS κ T.γ sv (Kg u (b::l)) xv:=h1
  generalize hn:(b::l)=m at h1⊢
  have hm:m.length≠0:=by rw[←hn];simp
  have hme:m.isEmpty=false:=by rw[←hn];rfl
  unfold Kg at h1
  generalize hz:m.length=z at h1 hm
  cases h1 with
  |sl _ _ _ b off cap u q1 q2 q3 q4 q5=>simp[execOp,ho,hxe,hye,eqGuard,lP hu,hme]
  |sl0=>exact absurd rfl hm
  |slE=>exact absurd rfl hm
theorem JH(hX:At X Z nt){op:BinOp}{ty ty2:TypeId}{x y:Operand}(ho:o.op= .binOp op ty x y ty2)(hd:o.dst=some t)(h:Im Z t op ty k (S.ev Z nt x) (S.ev Z nt y)=some r):∃e,k e=some r∧eP X Z nt o S e:=by
 have mx:x∈o.op.operands.toList:=by rw[ho];simp[Op.operands]
 have my:y∈o.op.operands.toList:=by rw[ho];simp[Op.operands]
 unfold Im at h
 split at h
 ·rename_i k1 m k2 n hx hy
  have cm:∀{b:Bool},k1=k2→M8 op m n=some b→eP X Z nt o S (vE t (.bool b)):=fun e hc=>by
   subst e
   exact iK hd fun h T ha=>aB ho (ha.ev mx hx) (ha.ev my hy) hc
  have ar:∀{e:Int},k1=k2→xb op m n=some e→eP X Z nt o S (vE t (.int k1 (k1.wrap e))):=fun e hc=>by
   subst e
   exact iK hd fun h T ha=>I9 ho (ha.ev mx hx) (ha.ev my hy) hc
  split at h<;>first
   |(obtain⟨h1,h2⟩:=ai h;exact⟨_,h2,cm (of_decide_eq_true h1) rfl⟩)
   |(obtain⟨h1,h2⟩:=ai h;exact⟨_,h2,ar (of_decide_eq_true h1) rfl⟩)
   |(obtain⟨h1,h⟩:=ai h
     obtain⟨h3,h2⟩:=ai h
     have:=of_decide_eq_true h1
     subst this
     have hn:n≠0:=by simpa using h3
     refine⟨_,h2,iK hd fun h T ha=> ?_⟩
     first
      |exact NF ho (ha.ev mx hx) (ha.ev my hy) hn
      |exact Ol ho (ha.ev mx hx) (ha.ev my hy) hn)
   |(obtain⟨h1,h2⟩:=ai h
     have:=of_decide_eq_true h1
     subst this
     refine⟨_,h2,iK hd fun h T ha=> ?_⟩
     first
      |(have hq:=PS ho (ha.ev mx hx) (ha.ev my hy);exact hq)
      |(have hq:=PT ho (ha.ev mx hx) (ha.ev my hy);exact hq)
      |(have hq:=Jw ho (ha.ev mx hx) (ha.ev my hy);exact hq))
   |(obtain⟨h1,h2⟩:=ai h
     have:=of_decide_eq_true h1
     refine⟨_,h2,iK hd fun h T ha=> ?_⟩
     first
      |exact Qf ho (ha.ev mx hx) (ha.ev my hy) this
      |exact Pd ho (ha.ev mx hx) (ha.ev my hy) this)
   |cases h
 ·rename_i a b hx hy
  split at h
  ·obtain⟨h1,h2⟩:=ai h
   exact⟨_,h2,iK hd fun h T ha=>Pa ho (by rw[hX.Z];exact Z.isB_ok _ h1) (ha.ev mx hx) (ha.ev my hy)⟩
  ·obtain⟨h1,h2⟩:=ai h
   exact⟨_,h2,iK hd fun h T ha=>Nx ho (by rw[hX.Z];exact Z.isB_ok _ h1) (ha.ev mx hx) (ha.ev my hy)⟩
  ·cases h
 ·rename_i a b hx hy
  split at h
  ·exact⟨_,h,iK hd fun h T ha=>Ql ho (ha.ev mx hx) (ha.ev my hy)⟩
  ·exact⟨_,h,iK hd fun h T ha=>Qv ho (ha.ev mx hx) (ha.ev my hy)⟩
  ·cases h
 ·rename_i l m hx hy
  obtain⟨h1,h⟩:=ai h
  split at h
  ·rename_i b hb
   split at h
   ·exact⟨_,h,iK hd fun h T ha=>Kb ho (ha.ev mx hx) (ha.ev my hy) (FA h hb) (by rw[hX.Z,EM];exact h1)⟩
   ·exact⟨_,h,iK hd fun h T ha=>v7 ho (ha.ev mx hx) (ha.ev my hy) (FA h hb) (by rw[hX.Z,EM];exact h1)⟩
   ·cases h
  ·cases h
 ·rename_i u l hx hy
  split at h
  ·split at h
   ·rename_i q hq
    obtain⟨h1,h2⟩:=ai h
    exact⟨_,h2,iK hd fun h T ha=>JQ ho (by rw[hX.Z];exact hq) h1 (ha.ev mx hx) (ha.ev my hy)⟩
   ·cases h
  ·cases h
 ·cases h
theorem Oc{T:St}{ty:TypeId}{x:Operand}{kk:IntKind}{n:Int}(ho:o.op= .unOp .neg ty x)(hx:T.ev X x= .int kk n):eh X o T (.int kk (kk.wrap (-n))):=fun κ sv a w hs=>
 ⟨.int kk (kk.wrap (-n)), .int _ _,fun w' _=>by simp[execOp,ho,dw hs hx,Op.unary,Op.intArith]⟩
def Ny(t:Nat)(op:UnOp)(k:Ef→Option R):I→Option R
 | .bool b=>match op with| .not=>k (vE t (.bool (!b)))|_=>none
 | .int kk n=>match op with| .neg=>k (vE t (.int kk (kk.wrap (-n))))|_=>none
 |_=>none
theorem LJ{op:UnOp}{ty:TypeId}{x:Operand}(ho:o.op= .unOp op ty x)(hd:o.dst=some t)(h:Ny t op k (S.ev Z nt x)=some r):∃e,k e=some r∧eP X Z nt o S e:=by
 have mx:x∈o.op.operands.toList:=by rw[ho];simp[Op.operands]
 unfold Ny at h
 split at h
 ·rename_i b hx
  split at h
  ·exact⟨_,h,iK hd fun h T ha=>cP ho (ha.ev mx hx)⟩
  ·cases h
 ·rename_i b hx
  split at h
  ·exact⟨_,h,iK hd fun h T ha=>Oc ho (ha.ev mx hx)⟩
  ·cases h
 ·cases h
def N8(Z:ISeat)(t:Nat)(ty ty2:TypeId)(k:Ef→Option R):I→Option R
 | .int _ n=>aP ((Z.ik ty).isSome) (match Z.ik ty2 with|some k2=>k (vE t (.int k2 (k2.wrap n)))|none=>none)
 |_=>none
theorem LA(hX:At X Z nt){ty ty2:TypeId}{x:Operand}(ho:o.op= .convert ty ty2 x)(hd:o.dst=some t)(h:N8 Z t ty ty2 k (S.ev Z nt x)=some r):∃e,k e=some r∧eP X Z nt o S e:=by
 have mx:x∈o.op.operands.toList:=by rw[ho];simp[Op.operands]
 unfold N8 at h
 split at h
 ·rename_i kk n hx
  obtain⟨h1,h⟩:=ai h
  obtain⟨k1,e1⟩:=Option.isSome_iff_exists.1 h1
  split at h
  ·rename_i k2 e2
   exact⟨_,h,iK hd fun h T ha=>MX ho (by rw[hX.Z,Z.ik_ok _ _ e1];rfl) (by rw[hX.Z];exact Z.ik_ok _ _ e2) (ha.ev mx hx)⟩
  ·cases h
 ·cases h
def Og(t i:Nat)(k:Ef→Option R):I→Option R
 | .tup l=>match nth l i with|some d=>k (vE t d)|none=>none
 |_=>none
theorem LD{i:Nat}{x:Operand}(ho:o.op= .extract x i)(hd:o.dst=some t)(h:Og t i k (S.ev Z nt x)=some r):∃e,k e=some r∧eP X Z nt o S e:=by
 have mx:x∈o.op.operands.toList:=by rw[ho];simp[Op.operands]
 unfold Og at h
 split at h
 ·rename_i l hx
  split at h
  ·rename_i d hi
   exact⟨_,h,iK hd fun h T ha=>cu ho (ha.ev mx hx) (il h hi)⟩
  ·cases h
 ·cases h
end
end Go.Ab
namespace Go.Ab
open Go Go.RowKit
set_option linter.all false
set_option maxHeartbeats 1000000
section
variable {R:Type} {X:Ctx} {Z:ISeat} {nt:Nat} {S:IS} {o:Oper} {r:R} {k:Ef→Option R} {t:Nat}
def rowOf(Z:ISeat)(ty:Nat)(k:TRow→Option R):Option R:=match nth Z.dS ty with
 |some q=>bif Nat.beq q.k 9 then none else k q
 |none=>none
theorem cn{ty:Nat}{f:TRow→Option R}(h:rowOf Z ty f=some r):∃q,nth Z.dS ty=some q∧Nat.beq q.k 9=false∧f q=some r:=by
 unfold rowOf at h
 split at h
 ·rename_i q hq
  cases hb:Nat.beq q.k 9 with
  |true=>rw[hb]at h;cases h
  |false=>rw[hb]at h;exact⟨q,hq,hb,h⟩
 ·cases h
def GB(q:TRow):Bool:=Nat.beq q.k 1||Nat.beq q.k 2
theorem JM{T:St}{ty:TypeId}{x:Operand}{f off fsz:Nat}{l m:List D}{q:TRow}(ho:o.op= .field ty x f)(hx:T.ev X x= .agg l)(hr:nth X.Z.dS ty=some q)(hk:Nat.beq q.k 1=true)
 (hf:nth q.fl f=some (off,fsz,true))(hm:takeN fsz (jB off l)=some m):eh X o T (.agg m):=fun κ sv a w hs=>by
 have hok:=X.Z.tabOk _ _ hr (by intro e;rw[e]at hk;cases hk)
 obtain⟨i,dd,hi,hdd,_,_,_,h4⟩:=cU hok
 have hk1:=Nat.eq_of_beq_eq_true hk
 cases dd<;>try (simp only at h4;omega)
 rename_i fs
 obtain⟨_,hfl,hall⟩:=h4
 rw[dX,←hfl,List.getElem?_map]at hf
 obtain⟨rfl,hlen⟩:=kH hm
 rw[kE]at hlen⊢
 obtain⟨vs,he,hl⟩:=qE hs hx
 refine⟨.agg ((vs.drop off).take fsz).toArray, .agg _ _ ((hl.drop _).take _),fun w' _=> ?_⟩
 cases hff:fs.toList[f]?with
 |none=>rw[hff]at hf;cases hf
 |some vU=>
  rw[hff]at hf
  simp only[Option.map_some,Option.some.injEq,Prod.mk.injEq]at hf
  obtain⟨h1,h2,h3⟩:=hf
  have hsome:=List.all_eq_true.1 hall vU (List.mem_of_getElem? hff)
  rw[Bool.and_eq_true]at hsome
  obtain⟨d2,hu2⟩:=Option.isSome_iff_exists.1 hsome.2
  obtain⟨i2,hi2⟩:=Option.isSome_iff_exists.1 hsome.1
  have hff' :fs[f]? =some vU:=by simpa using hff
  have hagg:(isAgg vU.type).run X.Z.P w' = .ok true w' :=by rw[ja hu2,h3]
  have hsz:i2.size=fsz:=by rw[←u5 hi2,h2]
  have hext:vs.toArray.extract off (off+fsz)=((vs.drop off).take fsz).toArray:=by simp[List.extract_eq_drop_take]
  simp[execOp,ho,he,Instr.field,run_underlying hdd,hff',asAgg,part,hagg,h1,run_sizeOf hi2,hsz,hext]
def Oh(Z:ISeat)(t ty f:Nat)(k:Ef→Option R):I→Option R
 | .agg l=>rowOf Z ty fun q=>aP (Nat.beq q.k 1) (match nth q.fl f with
   |some (off,fsz,true)=>(match pU fsz (qS off l)with|some m=>k (vE t (.agg m))|none=>none)
   |some (off,_,false)=>(match nth l off with|some d=>k (vE t d)|none=>none)
   |none=>none)
 |_=>none
theorem Kx(hX:At X Z nt){ty f:Nat}{x:Operand}(ho:o.op= .field ty x f)(hd:o.dst=some t)(h:Oh Z t ty f k (S.ev Z nt x)=some r):∃e,k e=some r∧eP X Z nt o S e:=by
 have mx:x∈o.op.operands.toList:=by rw[ho];simp[Op.operands]
 unfold Oh at h
 split at h
 ·rename_i l hx
  obtain⟨q,hq,h9,h⟩:=cn h
  obtain⟨hk,h⟩:=ai h
  split at h
  ·rename_i off fsz hf
   split at h
   ·rename_i m hm
    exact⟨_,h,iK hd fun h T ha=>JM ho (ha.ev mx hx) (by rw[hX.Z];exact hq) hk hf (by rw[kv];exact j8 h hm)⟩
   ·cases h
  ·rename_i off fsz hf
   split at h
   ·rename_i d hm
    exact⟨_,h,iK hd fun h T ha=>sb ho (ha.ev mx hx) (by rw[hX.Z];exact hq) hk hf rfl (il h hm)⟩
   ·cases h
  ·cases h
 ·cases h
def wy(Z:ISeat)(nt:Nat)(S:IS):List (Nat×Operand)→List (Nat×List I)
 |[]=>[]
 |(i,x)::l=>(i,(S.ev Z nt x).cells)::wy Z nt S l
def z4(Z:ISeat)(nt:Nat)(S:IS):List (Nat×Operand)→Bool
 |[]=>true
 |(_,x)::l=>wa (S.ev Z nt x).cells&&z4 Z nt S l
theorem tl{h:Nat→Nat}{T:St}(ha:Ag X Z nt S h T o):∀{l:List (Nat×Operand)},(∀p∈l,p.2∈o.op.operands.toList)→
 fK X T l=(wy Z nt S l).map (fun p=>(p.1,I.av h p.2))∧fZ X T l=z4 Z nt S l
 |[],_=>⟨rfl,rfl⟩
 |(i,x)::l,hm=>by
  obtain⟨h1,h2⟩:=tl ha (l:=l) fun p hp=>hm p (List.mem_cons_of_mem _ hp)
  have h3:=ha.ev (hm (i,x) (List.mem_cons_self ..)) rfl
  simp only at h3
  simp only[fK,wy,fZ,z4,List.map_cons,h1,h2,h3,fY,gU,and_self]
def MJ(Z:ISeat)(nt:Nat)(S:IS)(t ty:Nat)(ps:Array (Nat×Operand))(k:Ef→Option R):Option R:=rowOf Z ty fun q=>aP (z4 Z nt S ps.toList)
 (bif Nat.beq q.k 1 then(match Hg (OS q.fl) (q.zs.map zI) (wy Z nt S ps.toList)with|some l=>k (vE t (.agg l))|none=>none)
  else aP (Nat.beq q.k 2) (rowOf Z q.el fun q2=>match Hg (fun i=>some (i*q2.sz,q2.sz)) (q.zs.map zI) (wy Z nt S ps.toList)with|some l=>k (vE t (.agg l))|none=>none))
theorem LF(hX:At X Z nt){ty:Nat}{ps:Array (Nat×Operand)}(ho:o.op= .build ty ps)(hd:o.dst=some t)(h:MJ Z nt S t ty ps k=some r):∃e,k e=some r∧eP X Z nt o S e:=by
 have hm:∀p∈ps.toList,p.2∈o.op.operands.toList:=fun p hp=>by rw[ho];simp only[Op.operands];exact List.mem_map.2 ⟨p,hp,rfl⟩
 unfold MJ at h
 obtain⟨q,hq,h9,h⟩:=cn h
 obtain⟨hp,h⟩:=ai h
 cases hk:Nat.beq q.k 1 with
 |true=>
  rw[hk]at h
  simp only[cond_true]at h
  split at h
  ·rename_i l hl
   refine⟨_,h,iK hd fun h T ha=> ?_⟩
   obtain⟨h1,h2⟩:=tl ha hm
   exact bJ ho (by rw[hX.Z];exact hq) hk (h2.trans hp) (by rw[h1,←rW h];exact z6 h _ hl)
  ·cases h
 |false=>
  rw[hk]at h
  simp only[cond_false]at h
  obtain⟨hk2,h⟩:=ai h
  obtain⟨q2,hq2,h92,h⟩:=cn h
  split at h
  ·rename_i l hl
   refine⟨_,h,iK hd fun h T ha=> ?_⟩
   obtain⟨h1,h2⟩:=tl ha hm
   exact eG ho (by rw[hX.Z];exact hq) hk2 rfl (by rw[hX.Z];exact hq2) h92 (h2.trans hp) (by rw[h1,←rW h];exact z6 h _ hl)
  ·cases h
def OV(q:TRow)(t:Nat)(l:List I)(j:Nat)(k:Ef→Option R):Option R:=
 bif GB q then(match pU q.sz (qS j l)with|some m=>k (vE t (.agg m))|none=>none)else(match nth l j with|some d=>k (vE t d)|none=>none)
theorem Ai{q:TRow}{l:List I}{j:Nat}(h:OV q t l j k=some r):(GB q=true∧∃m,pU q.sz (qS j l)=some m∧k (vE t (.agg m))=some r)∨(GB q=false∧∃d,nth l j=some d∧k (vE t d)=some r):=by
 unfold OV at h
 cases ha:GB q with
 |true=>
  rw[ha]at h
  simp only[cond_true]at h
  split at h
  ·exact .inl ⟨rfl,_,by assumption,h⟩
  ·cases h
 |false=>
  rw[ha]at h
  simp only[cond_false]at h
  split at h
  ·exact .inr ⟨rfl,_,by assumption,h⟩
  ·cases h
def Ka(ty:T)(l:List (den ty))(i:Nat):List I:=b9 ty (l.getD i (dC ty))
def Nh(Z:ISeat)(S:IS)(t ty:Nat)(k:Ef→Option R):I→Option R
 | .rp l j=>bif Z.isF ty then(match nth l j with|some d=>k (vE t d)|none=>none)else rowOf Z ty fun q=>OV q t l j k
 | .bx s g j=>bif Z.isF ty then(bif Nat.beq g (S.gen s)then(match S.own s with| .box l=>(match nth l j with|some d=>k (vE t d)|none=>none)|_=>none)else none)else rowOf Z ty fun q=>bif Nat.beq g (S.gen s)then(match S.own s with| .box l=>OV q t l j k|_=>none)else none
 | .op s g z i j=>rowOf Z ty fun q=>bif Nat.beq g (S.gen s)then(match S.own s with| .arr _ e l=>aP (Nat.beq z (sz e)) (aP (decide (i<l.length)) (OV q t (Ka e l i) j k))|_=>none)else none
 |_=>none
theorem rz{x:Operand}{s g j:Nat}(hx:S.ev Z nt x= .bx s g j):s∈np (S.ev Z nt x):=by rw[hx];simp[np]
theorem gp{x:Operand}{s g:Nat}(hx:S.ev Z nt x= .os s g):s∈np (S.ev Z nt x):=by rw[hx];simp[np]
theorem tG{x:Operand}{s g z i j:Nat}(hx:S.ev Z nt x= .op s g z i j):s∈np (S.ev Z nt x):=by rw[hx];simp[np]
theorem KH(hX:At X Z nt){ty:Nat}{x:Operand}(ho:o.op= .load ty x)(hd:o.dst=some t)(h:Nh Z S t ty k (S.ev Z nt x)=some r):∃e,k e=some r∧eP X Z nt o S e:=by
 have mx:x∈o.op.operands.toList:=by rw[ho];simp[Op.operands]
 have hl2:lvl o=2:=by simp[lvl,ho]
 have hl1:lvl o≠0:=by rw[hl2];simp
 unfold Nh at h
 split at h
 ·rename_i l j hx
  cases hF:Z.isF ty with
  |true=>
   rw[hF]at h
   simp only[cond_true]at h
   obtain⟨td,hu,ha0⟩:=Z.isF_ok _ hF
   split at h
   ·rename_i d hm
    exact⟨_,h,iK hd fun h T ha=>Nr ho (ha.ev mx hx) (by rw[hX.Z];exact hu) (by rw[hX.Z];exact ha0) (il h hm)⟩
   ·cases h
  |false=>
  rw[hF]at h
  simp only[cond_false]at h
  obtain⟨q,hq,h9,h⟩:=cn h
  rcases Ai h with⟨hk,m,hm,h⟩|⟨hk,d,hm,h⟩
  ·exact⟨_,h,iK hd fun h T ha=>aM ho (ha.ev mx hx) (by rw[hX.Z];exact hq) hk h9 (by rw[kv];exact j8 h hm)⟩
  ·exact⟨_,h,iK hd fun h T ha=>di ho (ha.ev mx hx) (by rw[hX.Z];exact hq) hk h9 (il h hm)⟩
 ·rename_i s g j hx
  cases hF:Z.isF ty with
  |true=>
   rw[hF]at h
   simp only[cond_true]at h
   obtain⟨td,hu,ha0⟩:=Z.isF_ok _ hF
   cases hg:Nat.beq g (S.gen s)with
   |false=>rw[hg]at h;cases h
   |true=>
   have hg:=Nat.eq_of_beq_eq_true hg
   subst hg
   simp only[Nat.beq_refl,cond_true]at h
   split at h
   ·rename_i l hσ
    have hp:=rz hx
    split at h
    ·rename_i d hm
     exact⟨_,h,iK hd fun h T ha=>MY ho (ha.ev mx hx) (by rw[hX.Z];exact hu) (by rw[hX.Z];exact ha0) (ha.γ hl1 mx hp) ((ha.σ hl2 mx hp).trans (by rw[hσ];rfl)) (il h hm)⟩
    ·cases h
   ·cases h
  |false=>
  rw[hF]at h
  simp only[cond_false]at h
  obtain⟨q,hq,h9,h⟩:=cn h
  cases hg:Nat.beq g (S.gen s)with
  |false=>rw[hg]at h;cases h
  |true=>
  have hg:=Nat.eq_of_beq_eq_true hg
  subst hg
  simp only[Nat.beq_refl,cond_true]at h
  split at h
  ·rename_i l hσ
   have hp:=rz hx
   rcases Ai h with⟨hk,m,hm,h⟩|⟨hk,d,hm,h⟩
   ·exact⟨_,h,iK hd fun h T ha=>aq ho (ha.ev mx hx) (by rw[hX.Z];exact hq) hk h9 (ha.γ hl1 mx hp) ((ha.σ hl2 mx hp).trans (by rw[hσ];rfl)) (by rw[kv];exact j8 h hm)⟩
   ·exact⟨_,h,iK hd fun h T ha=>aH ho (ha.ev mx hx) (by rw[hX.Z];exact hq) hk h9 (ha.γ hl1 mx hp) ((ha.σ hl2 mx hp).trans (by rw[hσ];rfl)) (il h hm)⟩
  ·cases h
 ·rename_i s g z i j hx
  obtain⟨q,hq,h9,h⟩:=cn h
  cases hg:Nat.beq g (S.gen s)with
  |false=>rw[hg]at h;cases h
  |true=>
  have hg:=Nat.eq_of_beq_eq_true hg
  subst hg
  simp only[Nat.beq_refl,cond_true]at h
  split at h
  ·rename_i E e l hσ
   obtain⟨hz0,h2⟩:=ai h
   obtain⟨hi0,h3⟩:=ai h2
   clear h h2
   have hz:=Nat.eq_of_beq_eq_true hz0
   clear hz0
   subst hz
   have hi:=of_decide_eq_true hi0
   have h:=h3
   clear h3
   have hp:=tG hx
   have er:∀h:Nat→Nat,dk e (l.getD i (dC e))=I.av h (Ka e l i):=fun h=>(bc h e _).symm
   have hσT:∀h T,Ag X Z nt S h T o→T.σ s= .arr E (sz e) l.length (fun i=>dk e (l.getD i (dC e))):=fun h T ha=>(ha.σ hl2 mx hp).trans (by rw[hσ];rfl)
   rcases Ai h with⟨hk,m,hm,h⟩|⟨hk,d,hm,h⟩
   ·exact⟨_,h,iK hd fun h T ha=>NV ho (ha.ev mx hx) (by rw[hX.Z];exact hq) hk h9 (ha.γ hl1 mx hp) (hσT h T ha) hi (by rw[er h,kv];exact j8 h hm)⟩
   ·exact⟨_,h,iK hd fun h T ha=>mi ho (ha.ev mx hx) (by rw[hX.Z];exact hq) hk h9 (ha.γ hl1 mx hp) (hσT h T ha) hi (by rw[er h];exact il h hm)⟩
  ·cases h
 ·cases h
end
end Go.Ab
namespace Go.Ab
open Go Go.RowKit
set_option linter.all false
set_option maxHeartbeats 1000000
section
variable {R:Type} {X:Ctx} {Z:ISeat} {nt:Nat} {S:IS} {o:Oper} {r:R} {k:Ef→Option R} {t:Nat}
def live(S:IS)(s g:Nat)(x:Option R):Option R:=bif Nat.beq g (S.gen s)then x else none
theorem dD{s g:Nat}{x:Option R}(h:live S s g x=some r):g=S.gen s∧x=some r:=by
 unfold live at h
 cases hg:Nat.beq g (S.gen s)with
 |false=>rw[hg]at h;cases h
 |true=>rw[hg]at h;exact⟨Nat.eq_of_beq_eq_true hg,h⟩
def Nz(Z:ISeat)(S:IS)(t ty f:Nat)(k:Ef→Option R)(d:I):Option R:=rowOf Z ty fun q=>aP (Nat.beq q.k 1) (match nth q.fl f with
 |some (off,fsz,_)=>bif Nat.beq fsz 0 then none else(match d with
  | .rp l j=>k (vE t (.rp l (j+off)))
  | .bx s g j=>live S s g (k (vE t (.bx s g (j+off))))
  | .op s g z i j=>live S s g (k (vE t (.op s g z i (j+off))))
  |_=>none)
 |none=>none)
theorem LK(hX:At X Z nt){ty f:Nat}{x:Operand}(ho:o.op= .fieldAddr ty x f)(hd:o.dst=some t)(h:Nz Z S t ty f k (S.ev Z nt x)=some r):∃e,k e=some r∧eP X Z nt o S e:=by
 have mx:x∈o.op.operands.toList:=by rw[ho];simp[Op.operands]
 have hl1:lvl o≠0:=by simp[lvl,ho]
 unfold Nz at h
 obtain⟨q,hq,h9,h⟩:=cn h
 obtain⟨hk,h⟩:=ai h
 split at h
 ·rename_i off fsz ag hf
  cases hz:Nat.beq fsz 0 with
  |true=>rw[hz]at h;cases h
  |false=>
   rw[hz]at h
   simp only[cond_false]at h
   split at h
   ·rename_i l j hx
    exact⟨_,h,iK hd fun h T ha=>iN ho (ha.ev mx hx) (by rw[hX.Z];exact hq) hk hf hz⟩
   ·rename_i s g j hx
    replace h:=dD h
    obtain⟨rfl,h⟩:=h
    exact⟨_,h,iK hd fun h T ha=>aD ho (ha.ev mx hx) (ha.γ hl1 mx (rz hx)) (by rw[hX.Z];exact hq) hk hf hz⟩
   ·rename_i s g z i j hx
    replace h:=dD h
    obtain⟨rfl,h⟩:=h
    exact⟨_,h,iK hd fun h T ha=>zK ho (ha.ev mx hx) (ha.γ hl1 mx (tG hx)) (by rw[hX.Z];exact hq) hk hf hz⟩
   ·cases h
 ·cases h
def wL(i:Int)(k:Nat→Option R):Nat→Nat→Option R
 |0,_=>none
 |n+1,a=>bif i==(a:Int)then k a else wL i k n (a+1)
theorem oc{i:Int}{k:Nat→Option R}:∀{n a:Nat},wL i k n a=some r→∃j:Nat,i=(j:Int)∧j<a+n∧k j=some r
 |0,a,h=>by cases h
 |n+1,a,h=>by
  unfold wL at h
  cases hb:i==(a:Int)with
  |true=>rw[hb]at h;exact⟨a,by simpa using hb,by omega,h⟩
  |false=>
   rw[hb]at h
   obtain⟨j,h1,h2,h3⟩:=oc h
   exact⟨j,h1,by omega,h3⟩
theorem MS{T:St}{ty:TypeId}{x y:Operand}{r q:TRow}{s g z i j:Nat}{k:Int}(ho:o.op= .indexAddr ty x y)(hx:T.ev X x= .op s g z i j)(hg:T.γ s=g)(hy:T.ev X y= .int .i64 k)(h0:0≤k)
 (hr:nth X.Z.dS ty=some r)(hk:Nat.beq r.k 2=true)(h1:k<r.ln)(hq:nth X.Z.dS r.el=some q)(hq9:Nat.beq q.k 9=false):eh X o T (.op s g z i (j+k.toNat*q.sz)):=fun κ sv a w hs=>by
 have hok:=X.Z.tabOk _ _ hr (by intro e;rw[e]at hk;cases hk)
 have hokq:=X.Z.tabOk _ _ hq (by intro e;rw[e]at hq9;cases hq9)
 have hyv:=kU (hy▸hs.ev y)
 obtain⟨b,off,n,cap,e1,e2⟩:=Aa hs hx hg
 exact⟨.pointer (some ⟨b,off+(i*z+(j+k.toNat*q.sz)),none⟩), .op _ _ _ _ _ _ (by omega) (fun _=>⟨b,off,n,cap,e1,rfl⟩) rfl,fun w' _=>by
  simp[execOp,ho,e2,hyv,Instr.indexAt,asIntOf,run_underlying (l8 hok hk),Instr.sureAddr,h0,h1,dN hokq,dM,Nat.add_assoc]⟩
def MH(Z:ISeat)(S:IS)(t ty:Nat)(k:Ef→Option R)(d y:I):Option R:=rowOf Z ty fun q=>rowOf Z q.el fun q2=>match y with
 | .int .i64 i=>(match d with
   | .sl e l=>aP (Nat.beq q.k 3) (aP (Nat.beq q2.sz (sz e)) (aP (decide (0≤i)&&decide (i<l.length)) (k (vE t (.rp (Ka e l i.toNat) 0)))))
   | .os s g=>live S s g (match S.own s with
     | .arr _ e l=>aP (Nat.beq q.k 3) (aP (Nat.beq q2.sz (sz e)) (aP (decide (0≤i)&&decide (i<l.length)) (k (vE t (.op s g (sz e) i.toNat 0)))))
     |_=>none)
   | .bx s g j=>live S s g (aP (Nat.beq q.k 2) (wL i (fun a=>k (vE t (.bx s g (j+a*q2.sz)))) q.ln 0))
   | .rp l j=>aP (Nat.beq q.k 2) (wL i (fun a=>k (vE t (.rp l (j+a*q2.sz)))) q.ln 0)
   | .op s g z n j=>live S s g (aP (Nat.beq q.k 2) (wL i (fun a=>k (vE t (.op s g z n (j+a*q2.sz)))) q.ln 0))
   |_=>none)
 |_=>none
theorem K4(hX:At X Z nt){ty:Nat}{x y:Operand}(ho:o.op= .indexAddr ty x y)(hd:o.dst=some t)(h:MH Z S t ty k (S.ev Z nt x) (S.ev Z nt y)=some r):∃e,k e=some r∧eP X Z nt o S e:=by
 have mx:x∈o.op.operands.toList:=by rw[ho];simp[Op.operands]
 have my:y∈o.op.operands.toList:=by rw[ho];simp[Op.operands]
 have hl2:lvl o=2:=by simp[lvl,ho]
 have hl1:lvl o≠0:=by rw[hl2];simp
 unfold MH at h
 obtain⟨q,hq,h9,h⟩:=cn h
 obtain⟨q2,hq2,h92,h⟩:=cn h
 have hq' :nth X.Z.dS ty=some q:=by rw[hX.Z];exact hq
 have hq2' :nth X.Z.dS q.el=some q2:=by rw[hX.Z];exact hq2
 split at h
 ·rename_i i hy
  split at h
  ·rename_i e l hx
   obtain⟨h3,h⟩:=ai h
   obtain⟨hz,h⟩:=ai h
   obtain⟨hi,h⟩:=ai h
   simp only[Bool.and_eq_true,decide_eq_true_eq]at hi
   refine⟨_,h,iK hd fun h T ha=> ?_⟩
   have:=cq ho (ha.ev mx hx) (ha.ev my hy) hi.1 (by simpa using hi.2) hq' h3 hq2' h92 (Nat.eq_of_beq_eq_true hz)
   simp only[I.b8,Ka,bc]
   exact this
  ·rename_i s g hx
   replace h:=dD h
   obtain⟨rfl,h⟩:=h
   split at h
   ·rename_i E e l hσ
    obtain⟨h3,h⟩:=ai h
    obtain⟨hz,h⟩:=ai h
    obtain⟨hi,h⟩:=ai h
    simp only[Bool.and_eq_true,decide_eq_true_eq]at hi
    exact⟨_,h,iK hd fun h T ha=>kP ho (ha.ev mx hx) (ha.γ hl1 mx (gp hx)) ((ha.σ hl2 mx (gp hx)).trans (by rw[hσ];rfl)) (ha.ev my hy) hi.1 (by simpa using hi.2) hq' h3 hq2' h92 (Nat.eq_of_beq_eq_true hz)⟩
   ·cases h
  ·rename_i s g j hx
   replace h:=dD h
   obtain⟨rfl,h⟩:=h
   obtain⟨h2,h⟩:=ai h
   obtain⟨a,rfl,ha,h⟩:=oc h
   exact⟨_,h,iK hd fun h T hT=>by
    have:=cT ho (hT.ev mx hx) (hT.γ hl1 mx (rz hx)) (hT.ev my hy) (by omega) hq' h2 (by omega) hq2' h92
    simpa[I.b8]using this⟩
  ·rename_i l j hx
   obtain⟨h2,h⟩:=ai h
   obtain⟨a,rfl,ha,h⟩:=oc h
   exact⟨_,h,iK hd fun h T hT=>by
    have:=fP ho (hT.ev mx hx) (hT.ev my hy) (by omega) hq' h2 (by omega) hq2' h92
    simpa[I.b8]using this⟩
  ·rename_i s g z n j hx
   replace h:=dD h
   obtain⟨rfl,h⟩:=h
   obtain⟨h2,h⟩:=ai h
   obtain⟨a,rfl,ha,h⟩:=oc h
   exact⟨_,h,iK hd fun h T hT=>by
    have:=MS ho (hT.ev mx hx) (hT.γ hl1 mx (tG hx)) (hT.ev my hy) (by omega) hq' h2 (by omega) hq2' h92
    simpa[I.b8]using this⟩
  ·cases h
 ·cases h
theorem MR{T:St}{ty:TypeId}{x y:Operand}{q q2:TRow}{l:List D}{d:D}{a:Int}(ho:o.op= .index ty x y)(hx:T.ev X x= .agg l)(hy:T.ev X y= .int .i64 a)(h0:0≤a)
 (hr:nth X.Z.dS ty=some q)(hk:Nat.beq q.k 2=true)(h1:a<q.ln)(hq:nth X.Z.dS q.el=some q2)(h9:Nat.beq q2.k 9=false)(hqk:(Nat.beq q2.k 1||Nat.beq q2.k 2)=false)(hm:nth l (a.toNat*q2.sz)=some d):eh X o T d:=fun κ sv ac w hs=>by
 have hok:=X.Z.tabOk _ _ hr (by intro e;rw[e]at hk;cases hk)
 have hokq:=X.Z.tabOk _ _ hq (by intro e;rw[e]at h9;cases h9)
 have hyv:=kU (hy▸hs.ev y)
 obtain⟨vs,e1,hl⟩:=qE hs hx
 obtain⟨iq,dq,hiq,hdq,hsq,_⟩:=cU hokq
 rw[dX]at hm
 obtain⟨v,hv,hrep⟩:=hl.get hm
 refine⟨v,hrep,fun w' _=> ?_⟩
 have hagg:(isAgg q.el).run X.Z.P w' = .ok false w' :=by rw[ja hdq,uO hokq,hqk]
 simp[execOp,ho,e1,hyv,Instr.index,asIntOf,run_underlying (l8 hok hk),h0,h1,dN hokq,part,hagg,hv]
def Ep(s:ByteArray)(i:Nat)(k:Int→Option R):Option R:=match s[i]?with
 |some b=>k b.toNat
 |none=>none
theorem HF{s:ByteArray}{i:Nat}{k:Int→Option R}(h:Ep s i k=some r):∃b:UInt8,s[i]? =some b∧k b.toNat=some r:=by
 unfold Ep at h
 split at h
 ·exact⟨_,by assumption,h⟩
 ·cases h
def Oi(Z:ISeat)(t ty:Nat)(k:Ef→Option R)(d y:I):Option R:=match d,y with
 | .agg l, .int .i64 i=>rowOf Z ty fun q=>rowOf Z q.el fun q2=>aP (Nat.beq q.k 2) (wL i (fun a=>OV q2 t l (a*q2.sz) k) q.ln 0)
 | .str s, .int .i64 i=>aP (Z.isS ty) (aP (decide (0≤i)) (Ep s i.toNat fun b=>k (vE t (.int .u8 b))))
 |_,_=>none
theorem LO(hX:At X Z nt){ty:Nat}{x y:Operand}(ho:o.op= .index ty x y)(hd:o.dst=some t)(h:Oi Z t ty k (S.ev Z nt x) (S.ev Z nt y)=some r):∃e,k e=some r∧eP X Z nt o S e:=by
 have mx:x∈o.op.operands.toList:=by rw[ho];simp[Op.operands]
 have my:y∈o.op.operands.toList:=by rw[ho];simp[Op.operands]
 unfold Oi at h
 split at h
 ·rename_i l i hx hy
  obtain⟨q,hq,h9,h⟩:=cn h
  obtain⟨q2,hq2,h92,h⟩:=cn h
  have hq' :nth X.Z.dS ty=some q:=by rw[hX.Z];exact hq
  have hq2' :nth X.Z.dS q.el=some q2:=by rw[hX.Z];exact hq2
  obtain⟨h2,h⟩:=ai h
  obtain⟨a,rfl,ha,h⟩:=oc h
  rcases Ai h with⟨hk,m,hm,h⟩|⟨hk,d,hm,h⟩
  ·exact⟨_,h,iK hd fun h T hT=>lF ho (hT.ev mx hx) (hT.ev my hy) (by omega) hq' h2 (by omega) hq2' hk (by rw[kv];simpa using j8 h hm)⟩
  ·exact⟨_,h,iK hd fun h T hT=>MR ho (hT.ev mx hx) (hT.ev my hy) (by omega) hq' h2 (by omega) hq2' h92 hk (by simpa using il h hm)⟩
 ·rename_i s i hx hy
  obtain⟨h1,h⟩:=ai h
  obtain⟨h2,h⟩:=ai h
  obtain⟨b,hb,h⟩:=HF h
  exact⟨_,h,iK hd fun h T hT=>Oa ho (hT.ev mx hx) (hT.ev my hy) (by rw[hX.Z];exact Z.isS_ok _ h1) (of_decide_eq_true h2) hb⟩
 ·cases h
def Nw(S:IS)(t:Nat)(k:Ef→Option R):I→Option R
 | .bx s g j=>live S s g (k (vE t (.bx s g j)))
 | .rp l j=>k (vE t (.rp l j))
 | .op s g z i j=>live S s g (k (vE t (.op s g z i j)))
 |_=>none
theorem K5{x:Operand}(ho:o.op= .nilCheck x)(hd:o.dst=some t)(h:Nw S t k (S.ev Z nt x)=some r):∃e,k e=some r∧eP X Z nt o S e:=by
 have mx:x∈o.op.operands.toList:=by rw[ho];simp[Op.operands]
 have hl1:lvl o≠0:=by simp[lvl,ho]
 unfold Nw at h
 split at h
 ·rename_i s g j hx
  replace h:=dD h
  obtain⟨rfl,h⟩:=h
  exact⟨_,h,iK hd fun h T ha=>Pr ho (ha.ev mx hx) (ha.γ hl1 mx (rz hx))⟩
 ·rename_i l j hx
  exact⟨_,h,iK hd fun h T ha=>NY ho (ha.ev mx hx)⟩
 ·rename_i s g z i j hx
  replace h:=dD h
  obtain⟨rfl,h⟩:=h
  exact⟨_,h,iK hd fun h T ha=>OH ho (ha.ev mx hx) (ha.γ hl1 mx (tG hx))⟩
 ·cases h
def H7(Z:ISeat)(S:IS)(t:Nat)(ts:Array TypeId)(k:Ef→Option R)(d:I):Option R:=match ts[0]?with
 |some ty=>bif Z.isS ty then(match d with| .str b=>k (vE t (.int .i64 b.size))|_=>none)else rowOf Z ty fun q=>aP (Nat.beq q.k 3) (match d with
  | .sl _ l=>k (vE t (.int .i64 l.length))
  | .nil=>k (vE t (.int .i64 0))
  | .os s g=>live S s g (match S.own s with
    | .arr _ _ l=>k (vE t (.int .i64 l.length))
    |_=>none)
  |_=>none)
 |none=>none
theorem JO(hX:At X Z nt){x:Operand}{ts:Array TypeId}(ho:o.op= .call {callee:= .builtin .len,args:= #[x],argTypes:=ts})(hd:o.dst=some t)(h:H7 Z S t ts k (S.ev Z nt x)=some r):∃e,k e=some r∧eP X Z nt o S e:=by
 have mx:x∈o.op.operands.toList:=by rw[ho];simp[Op.operands,Call.operands]
 have hl2:lvl o=2:=by simp[lvl,ho]
 have hl1:lvl o≠0:=by rw[hl2];simp
 unfold H7 at h
 split at h
 ·rename_i ty hT
  cases hS:Z.isS ty with
  |true=>
   rw[hS]at h
   simp only[cond_true]at h
   split at h
   ·rename_i b hx
    exact⟨_,h,iK hd fun h T ha=>Na ho hT (ha.ev mx hx) (by rw[hX.Z];exact Z.isS_ok _ hS)⟩
   ·cases h
  |false=>
  rw[hS]at h
  simp only[cond_false]at h
  obtain⟨q,hq,h9,h⟩:=cn h
  obtain⟨h3,h⟩:=ai h
  have hq' :nth X.Z.dS ty=some q:=by rw[hX.Z];exact hq
  split at h
  ·rename_i e l hx
   exact⟨_,h,iK hd fun h T ha=>ba ho hT (ha.ev mx hx) hq' h3⟩
  ·rename_i hx
   exact⟨_,h,iK hd fun h T ha=>M4 ho hT (ha.ev mx hx) hq' h3⟩
  ·rename_i s g hx
   replace h:=dD h
   obtain⟨rfl,h⟩:=h
   split at h
   ·rename_i E e l hσ
    exact⟨_,h,iK hd fun h T ha=>iV ho hT (ha.ev mx hx) (ha.γ hl1 mx (gp hx)) ((ha.σ hl2 mx (gp hx)).trans (by rw[hσ];rfl)) hq' h3⟩
   ·cases h
  ·cases h
 ·cases h
def Hy(t:Nat)(mx:Bool)(k:Ef→Option R):I→I→Option R
 | .int .i64 a, .int .i64 b=>bif mx then k (vE t (.int .i64 (max a b)))else k (vE t (.int .i64 (min a b)))
 |_,_=>none
theorem Ir{x y:Operand}{ts:Array TypeId}(ho:o.op= .call {callee:= .builtin .min,args:= #[x,y],argTypes:=ts})(hd:o.dst=some t)(h:Hy t false k (S.ev Z nt x) (S.ev Z nt y)=some r):∃e,k e=some r∧eP X Z nt o S e:=by
 have mx:x∈o.op.operands.toList:=by rw[ho];simp[Op.operands,Call.operands]
 have my:y∈o.op.operands.toList:=by rw[ho];simp[Op.operands,Call.operands]
 unfold Hy at h
 split at h
 ·rename_i a b hx hy
  exact⟨_,h,iK hd fun h T ha=>j7 ho (ha.ev mx hx) (ha.ev my hy)⟩
 ·cases h
theorem JK{x y:Operand}{ts:Array TypeId}(ho:o.op= .call {callee:= .builtin .max,args:= #[x,y],argTypes:=ts})(hd:o.dst=some t)(h:Hy t true k (S.ev Z nt x) (S.ev Z nt y)=some r):∃e,k e=some r∧eP X Z nt o S e:=by
 have mx:x∈o.op.operands.toList:=by rw[ho];simp[Op.operands,Call.operands]
 have my:y∈o.op.operands.toList:=by rw[ho];simp[Op.operands,Call.operands]
 unfold Hy at h
 split at h
 ·rename_i a b hx hy
  exact⟨_,h,iK hd fun h T ha=>dL ho (ha.ev mx hx) (ha.ev my hy)⟩
 ·cases h
theorem jl{h:Nat→Nat}{T:St}(ha:Ag X Z nt S h T o){l:List Operand}(hm:∀x∈l,x∈o.op.operands.toList):l.map (T.ev X)=I.av h (l.map (S.ev Z nt)):=by
 rw[eD,List.map_map]
 exact List.map_congr_left fun x hx=>ha.ev (hm x hx) rfl
def ME(Z:ISeat)(nt:Nat)(S:IS)(t:Nat)(fn:Fn)(first cap:Array Operand)(k:Ef→Option R):Option R:=match fn with
 | .func f=>bif Nat.beq first.toList.length 0 then k (vE t (.fn f (cap.toList.map (S.ev Z nt))))else aP (Nat.beq cap.toList.length 0) (k (vE t (.mf f (first.toList.map (S.ev Z nt)))))
 |_=>none
theorem A3{α:Type}{a:Array α}(h:Nat.beq a.toList.length 0=true):a= #[]:=by
 have:=Nat.eq_of_beq_eq_true h
 apply Array.eq_empty_of_size_eq_zero;simpa using this
theorem Lg{fn:Fn}{first cap:Array Operand}(ho:o.op= .makeFunc fn first cap)(hd:o.dst=some t)(h:ME Z nt S t fn first cap k=some r):∃e,k e=some r∧eP X Z nt o S e:=by
 unfold ME at h
 split at h
 ·rename_i f
  cases hb:Nat.beq first.toList.length 0 with
  |true=>
   rw[hb]at h
   have e:=A3 hb
   subst e
   refine⟨_,h,iK hd fun h T ha=> ?_⟩
   have:=Oe (X:=X) (S:=T) ho
   rw[jl ha (fun x hx=>by rw[ho];simpa[Op.operands]using hx)]at this
   exact this
  |false=>
   rw[hb]at h
   obtain⟨hb,h⟩:=ai h
   have e:=A3 hb
   subst e
   refine⟨_,h,iK hd fun h T ha=> ?_⟩
   have:=pD (X:=X) (S:=T) ho
   rw[jl ha (fun x hx=>by rw[ho];simpa[Op.operands]using hx)]at this
   exact this
 ·cases h
def J3(S:IS)(s:Nat)(l:List I):Ef:=⟨some s, .bx s (S.gen s+1) 0,some (s,S.gen s+1),some (s, .box l)⟩
theorem zk{h:Nat→Nat}{T:St}{s:Nat}{l:List I}(hγ:T.γ s=h s+S.gen s):T.boxed s (I.av h l)=T.app (J3 S s l).wr ((J3 S s l).vl h):=by
 unfold St.boxed St.app J3 Ef.wr Ef.vl
 rw[hγ];rfl
def N1(S:IS)(t:Nat)(k:Ef→Option R)(d:I):Option R:=aP (wa d.cells) (k (J3 S t d.cells))
theorem KS{ty:Nat}{x:Operand}(ho:o.op= .box ty x)(hd:o.dst=some t)(h:N1 S t k (S.ev Z nt x)=some r):∃e,k e=some r∧eP X Z nt o S e:=by
 have mx:x∈o.op.operands.toList:=by rw[ho];simp[Op.operands]
 unfold N1 at h
 obtain⟨hc,h⟩:=ai h
 refine⟨_,h,fun h T ha hg=> ?_⟩
 rw[←zk (hg _ rfl),←fY]
 exact fo (L0 ho hd (ha.ev mx rfl) (by rw[fY,gU];exact hc))
def OI(Z:ISeat)(S:IS)(t ty:Nat)(k:Ef→Option R):Option R:=rowOf Z ty fun q=>k (J3 S t (q.zs.map zI))
theorem KA(hX:At X Z nt){ty:Nat}(ho:o.op= .alloc ty)(hd:o.dst=some t)(h:OI Z S t ty k=some r):∃e,k e=some r∧eP X Z nt o S e:=by
 unfold OI at h
 obtain⟨q,hq,h9,h⟩:=cn h
 refine⟨_,h,fun h T ha hg=> ?_⟩
 rw[←zk (hg _ rfl),rW]
 exact fo (aO ho hd (by rw[hX.Z];exact hq) h9)
theorem en(h:Nat→Nat):∀{l m:List I},dE l m→wx (I.av h l) (I.av h m)
 |_,_, .nil=>trivial
 |_,_, .cons (.same d) h2=>⟨.inl rfl,en h h2⟩
 |_,_, .cons (.nsl t l) h2=>⟨(by cases l with|nil=>exact .inr ⟨rfl,sz t,fun i=>dk t (([]:List (den t)).getD i (dC t)),rfl⟩|cons=>exact .inl rfl),en h h2⟩
 |_,_, .cons (.nil t) h2=>⟨.inr ⟨rfl,sz t,fun i=>dk t (([]:List (den t)).getD i (dC t)),rfl⟩,en h h2⟩
def Kf(s:Nat)(ow:IOwn):Ef:=⟨none, .undef,none,some (s,ow)⟩
def Oj(Z:ISeat)(S:IS)(ty:Nat)(k:Ef→Option R)(p d:I):Option R:=rowOf Z ty fun q=>aP (wa d.cells) (aP (Nat.beq d.cells.length q.sz) (match p with
 | .bx s g j=>live S s g (match S.own s with
   | .box l=>(match eO l j d.cells with|some l' =>k (Kf s (.box l'))|none=>none)
   |_=>none)
 | .op s g z i j=>live S s g (match S.own s with
   | .arr E e l=>aP (Nat.beq z (sz e)) (aP (decide (i<l.length)) (match eO (Ka e l i) j d.cells with
     |some l' =>(match gi e l' with|some x=>k (Kf s (.arr E e (l.set i x)))|none=>k (Kf s (.arrp E e l i l')))
     |none=>none))
   |_=>none)
 |_=>none))
theorem KZ(hX:At X Z nt){ty:Nat}{x y:Operand}(ho:o.op= .store ty x y)(hd:o.dst=none)(h:Oj Z S ty k (S.ev Z nt x) (S.ev Z nt y)=some r):∃e,k e=some r∧eP X Z nt o S e:=by
 have mx:x∈o.op.operands.toList:=by rw[ho];simp[Op.operands]
 have my:y∈o.op.operands.toList:=by rw[ho];simp[Op.operands]
 have hl2:lvl o=2:=by simp[lvl,ho]
 have hl1:lvl o≠0:=by rw[hl2];simp
 unfold Oj at h
 obtain⟨q,hq,h9,h⟩:=cn h
 obtain⟨hc,h⟩:=ai h
 obtain⟨hsz,h⟩:=ai h
 have hq' :nth X.Z.dS ty=some q:=by rw[hX.Z];exact hq
 have hsz:=Nat.eq_of_beq_eq_true hsz
 have hc' :∀h:Nat→Nat,aV ((S.ev Z nt y).b8 h).cells=true:=fun h=>by rw[fY,gU];exact hc
 have hn' :∀h:Nat→Nat,((S.ev Z nt y).b8 h).cells.length=q.sz:=fun h=>by rw[fY,eT];exact hsz
 split at h
 ·rename_i s g j hx
  replace h:=dD h
  obtain⟨rfl,h⟩:=h
  split at h
  ·rename_i l hσ
   split at h
   ·rename_i l' hl
    refine⟨_,h,fun h T ha hg=> ?_⟩
    have:=bM ho (ha.ev mx hx) (ha.γ hl1 mx (rz hx)) ((ha.σ hl2 mx (rz hx)).trans (by rw[hσ];rfl)) (ha.ev my rfl) (hc' h) hq' h9 (hn' h) (by rw[fY];exact kC h hl) hd
    exact fo this
   ·cases h
  ·cases h
 ·rename_i s g z i j hx
  replace h:=dD h
  obtain⟨rfl,h⟩:=h
  split at h
  ·rename_i E e l hσ
   obtain⟨hz0,h2⟩:=ai h
   obtain⟨hi0,h3⟩:=ai h2
   clear h h2
   have hz:=Nat.eq_of_beq_eq_true hz0
   clear hz0
   subst hz
   have hi:=of_decide_eq_true hi0
   split at h3
   ·rename_i l' hl
    split at h3
    ·rename_i v hv
     refine⟨_,h3,fun h T ha hg=> ?_⟩
     have hσT:T.σ s= .arr E (sz e) l.length (fun i=>dk e (l.getD i (dC e))):=(ha.σ hl2 mx (tG hx)).trans (by rw[hσ];rfl)
     have:=lU ho (ha.ev mx hx) (ha.γ hl1 mx (tG hx)) hσT hi (ha.ev my rfl) (hc' h) hq' h9 (hn' h) (k:=I.av h l') (by rw[fY,←bc h];exact kC h hl) hd
     refine xT.wk (fo this) ?_
     have hw:=zU (X:=X) (S:=⟨T.ρ,T.γ,bN T.σ s (.arr E (sz e) l.length (nV (fun i=>dk e (l.getD i (dC e))) i (I.av h l')))⟩) s (E:=E) (z:=sz e) (n:=l.length) (f:=nV (fun i=>dk e (l.getD i (dC e))) i (I.av h l')) (fun i' =>dk e ((l.set i v).getD i' (dC e))) (aj _ _ _) (fun i' hi' =>by
      by_cases e1:i' =i
      ·subst e1
       rw[tv,List.getD_eq_getElem?_getD,List.getElem?_set_self hi,←bc h]
       exact en h (dm e hv)
      ·rw[AF _ _ e1]
       rw[List.getD_eq_getElem?_getD,List.getD_eq_getElem?_getD,List.getElem?_set_ne (fun h=>e1 h.symm)]
       exact yU _)
     have e2:(⟨T.ρ,T.γ,bN (bN T.σ s (.arr E (sz e) l.length (nV (fun i=>dk e (l.getD i (dC e))) i (I.av h l')))) s (.arr E (sz e) l.length (fun i' =>dk e ((l.set i v).getD i' (dC e))))⟩:St)=T.app (Kf s (.arr E e (l.set i v))).wr ((Kf s (.arr E e (l.set i v))).vl h):=by
      unfold St.app Kf Ef.wr Ef.vl
      simp only[Option.map_some,Option.map_none,qV,IOwn.bz,List.length_set]
      congr 1
      funext j
      simp only[bN]
      cases Nat.beq j s<;>rfl
     rw[e2]at hw
     exact hw
    ·refine⟨_,h3,fun h T ha hg=> ?_⟩
     have hσT:T.σ s= .arr E (sz e) l.length (fun i=>dk e (l.getD i (dC e))):=(ha.σ hl2 mx (tG hx)).trans (by rw[hσ];rfl)
     have:=lU ho (ha.ev mx hx) (ha.γ hl1 mx (tG hx)) hσT hi (ha.ev my rfl) (hc' h) hq' h9 (hn' h) (k:=I.av h l') (by rw[fY,←bc h];exact kC h hl) hd
     exact fo this
   ·cases h3
  ·cases h
 ·cases h
end
end Go.Ab
