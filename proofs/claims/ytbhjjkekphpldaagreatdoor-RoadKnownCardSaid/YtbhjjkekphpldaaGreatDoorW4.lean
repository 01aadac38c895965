/- Walks by computing: what each function of the program that the laws reach gives for what it gets, as plain Lean, and that it is so; without a condition but those that stand in each theorem. -/
import Derived.Laws.IdiomStrings
import Derived.Test.YtbhjjkekphpldaaGreatDoorW1
import Derived.Test.YtbhjjkekphpldaaGreatDoorW2
import Derived.Test.YtbhjjkekphpldaaGreatDoorW3
set_option linter.all false
namespace Go.Ab
open Go Go.RowKit
set_option linter.all false
noncomputable section
mutual
def vI:I→Value
 |.int k n=>.int k n
 |.bool b=>.bool b
 |.str s=>.string s
 |.agg l=>.agg (vIL l).toArray
 |.fn f l=>.func (.func f) #[] (vIL l).toArray
 |_=>Go.undef
def vIL:List I→List Value
 |[]=>[]
 |d::l=>vI d::vIL l
end
mutual
def cloI:I→Bool
 |.int _ _=>true
 |.bool _=>true
 |.str _=>true
 |.agg l=>cloL l
 |.fn _ l=>cloL l
 |_=>false
def cloL:List I→Bool
 |[]=>true
 |d::l=>cloI d&&cloL l
end
inductive IOwn where
 |none
 |box (l:List I)
 |arr (E:TypeId) (t:T) (l:List (den t))
 |arrp (E:TypeId) (t:T) (l:List (den t)) (i:Nat) (row:List I)
 |mp (l:List (Int×Int))
 |mps (l:List (ByteArray×I))
 |si (s:ByteArray) (p:Nat)
def IOwn.toOwn (h:Nat→Nat):IOwn→Own
 |.none=>.none
 |.box l=>.box (I.toDL h l)
 |.arr E t l=>.arr E (sz t) l.length (fun i=>encD t (l.getD i (dflt t)))
 |.arrp E t l i row=>.arr E (sz t) l.length (updF (fun i=>encD t (l.getD i (dflt t))) i (I.toDL h row))
 |.mp l=>.mp (l.map fun p=>(Value.int .i64 p.1,Value.int .i64 p.2))
 |.mps l=>.mp (l.map fun p=>(Value.string p.1,vI p.2))
 |.si s p=>.si s p
def mpV:IOwn→Option (List (Value×Value))
 |.mp l=>some (l.map fun p=>(Value.int .i64 p.1,Value.int .i64 p.2))
 |.mps l=>some (l.map fun p=>(Value.string p.1,vI p.2))
 |_=>none
theorem mpV_ok {o:IOwn}{l:List (Value×Value)} (h:Nat→Nat) (e:mpV o=some l):o.toOwn h=.mp l:=by
 cases o<;>simp only[mpV,Option.some.injEq]at e<;>first|(cases e;done)|(subst e;rfl)
mutual
theorem vI_rep (h:Nat→Nat):∀ {d:I},cloI d=true→∀ κ γ sv,Rep κ γ sv (d.toD h) (vI d)
 |.int _ _,_,_,_,_=>.int _ _
 |.bool _,_,_,_,_=>.bool _
 |.str _,_,_,_,_=>.str _
 |.agg l,hc,κ,γ,sv=>.agg _ _ (vIL_rep h hc κ γ sv)
 |.fn f l,hc,κ,γ,sv=>.fn f _ _ (vIL_rep h hc κ γ sv)
 |.tup _,hc,_,_,_|.sl _ _,hc,_,_,_|.nsl _ _,hc,_,_,_|.nil,hc,_,_,_|.rp _ _,hc,_,_,_|.bx _ _ _,hc,_,_,_|.mb _ _ _,hc,_,_,_|.os _ _,hc,_,_,_|.op _ _ _ _ _,hc,_,_,_|.ow _ _ _ _ _,hc,_,_,_|.yl _,hc,_,_,_|.mf _ _,hc,_,_,_|.one,hc,_,_,_|.lk _,hc,_,_,_|.er _,hc,_,_,_|.undef,hc,_,_,_=>(Bool.false_ne_true hc).elim
theorem vIL_rep (h:Nat→Nat):∀ {l:List I},cloL l=true→∀ κ γ sv,RepL κ γ sv (I.toDL h l) (vIL l)
 |[],_,_,_,_=>.nil
 |d::l,hc,κ,γ,sv=>by
  simp only[cloL,Bool.and_eq_true]at hc
  exact .cons _ _ _ _ (vI_rep h hc.1 κ γ sv) (vIL_rep h hc.2 κ γ sv)
end
mutual
theorem vI_eq (h:Nat→Nat):∀ {d:I},cloI d=true→∀ {κ γ sv v},Rep κ γ sv (d.toD h) v→v=vI d
 |.int _ _,_,_,_,_,_,hr=>by cases hr;rfl
 |.bool _,_,_,_,_,_,hr=>by cases hr;rfl
 |.str _,_,_,_,_,_,hr=>by cases hr;rfl
 |.agg l,hc,κ,γ,sv,_,hr=>by
  cases hr with
  |agg _ vs hl=>rw[vIL_eq h hc hl];rfl
 |.fn f l,hc,κ,γ,sv,_,hr=>by
  cases hr with
  |fn _ _ vs hl=>rw[vIL_eq h hc hl];rfl
 |.tup _,hc,_,_,_,_,_|.sl _ _,hc,_,_,_,_,_|.nsl _ _,hc,_,_,_,_,_|.nil,hc,_,_,_,_,_|.rp _ _,hc,_,_,_,_,_|.bx _ _ _,hc,_,_,_,_,_|.mb _ _ _,hc,_,_,_,_,_|.os _ _,hc,_,_,_,_,_|.op _ _ _ _ _,hc,_,_,_,_,_|.ow _ _ _ _ _,hc,_,_,_,_,_|.yl _,hc,_,_,_,_,_|.mf _ _,hc,_,_,_,_,_|.one,hc,_,_,_,_,_|.lk _,hc,_,_,_,_,_|.er _,hc,_,_,_,_,_|.undef,hc,_,_,_,_,_=>(Bool.false_ne_true hc).elim
theorem vIL_eq (h:Nat→Nat):∀ {l:List I},cloL l=true→∀ {κ γ sv vs},RepL κ γ sv (I.toDL h l) vs→vs=vIL l
 |[],_,_,_,_,_,hr=>by cases hr;rfl
 |d::l,hc,_,_,_,_,hr=>by
  simp only[cloL,Bool.and_eq_true]at hc
  cases hr with
  |cons _ v _ vs h1 h2=>rw[vI_eq h hc.1 h1,vIL_eq h hc.2 h2];rfl
end
def sFindI:List (ByteArray×I)→ByteArray→Option I
 |[],_=>none
 |p::l,s=>bif s == p.1 then some p.2 else sFindI l s
theorem sFindI_ok:∀ (l:List (ByteArray×I)) (s:ByteArray),(sFind (l.map fun p=>(p.1,vI p.2)) s).map (·.2)=(sFindI l s).map vI∧(sFind (l.map fun p=>(p.1,vI p.2)) s).isSome=(sFindI l s).isSome
 |[],s=>⟨rfl,rfl⟩
 |p::l,s=>by
  obtain ⟨h1,h2⟩:=sFindI_ok l s
  simp only[List.map_cons,sFind,sFindI]
  cases s == p.1 with
  |true=>exact⟨rfl,rfl⟩
  |false =>
   simp only[cond_false]
   refine ⟨?_,?_⟩
   ·rw[← h1];cases sFind (l.map fun p=>(p.1,vI p.2)) s<;>rfl
   ·rw[← h2];cases sFind (l.map fun p=>(p.1,vI p.2)) s<;>rfl
structure IS where
 rs:List (Nat×I)
 gs:List (Nat×Nat)
 os:List (Nat×IOwn)
def IS.get (S:IS) (t:Nat):I:=look .undef S.rs t
def IS.gen (S:IS) (s:Nat):Nat:=look 0 S.gs s
def IS.own (S:IS) (s:Nat):IOwn:=look .none S.os s
def IS.toSt (h:Nat→Nat) (S:IS):St:=⟨fun t=>(S.get t).toD h,fun s=>h s+S.gen s,fun s=>(S.own s).toOwn h⟩
structure ISeat extends Seat where
 gI:Nat→Option (List I)
 gI_ok:∀ g h,toSeat.glob g=(gI g).map (I.toDL h)
 ty:Nat→Option T
 ty_ok:∀ E t q,ty E=some t→nth toSeat.tab E=some q→Nat.beq q.k 9=false∧q.sz=sz t∧q.zs.length=sz t
 ik:Nat→Option IntKind
 ik_ok:∀ t k,ik t=some k→toSeat.P.underlying t=some (.int k)
 isB:Nat→Bool
 isB_ok:∀ t,isB t=true→toSeat.P.underlying t=some .bool
 isF:Nat→Bool
 isF_ok:∀ t,isF t=true→∃ d,toSeat.P.underlying t=some d∧aggOf toSeat.P t=false
 isS:Nat→Bool
 isS_ok:∀ t,isS t=true→toSeat.P.underlying t=some .string
 isM:Nat→Bool
 isM_ok:∀ t,isM t=true→MapTy toSeat.P t
 isI:Nat→Bool
 isI_ok:∀ t,isI t=true→toSeat.P.underlying t=some (.interface (toSeat.P.methodsAt t))
 bt:Nat→Option Nat
def ofCI:Value→I
 |.int k n=>.int k n
 |.bool b=>.bool b
 |.string s=>.str s
 |.slice none 0 0=>.nil
 |.nilIface=>.er true
 |.pointer none=>.lk .np
 |_=>.undef
def ofVI:Value→I
 |.agg cs=>.agg (cs.toList.map ofCI)
 |v=>ofCI v
def IS.ev (Z:ISeat) (nt:Nat) (S:IS):Operand→I
 |.tmp t=>bif Nat.blt t nt then S.get t else .undef
 |.const v=>ofVI v
 |.global g=>match Z.gI g with|some l=>.rp l 0|none=>.undef
 |.func f=>.fn f []
theorem toDL_map (h:Nat→Nat):∀ l:List I,I.toDL h l=l.map (I.toD h)
 |[]=>rfl
 |d::l=>by simp only[I.toDL,List.map_cons,toDL_map h l]
theorem toD_ofC (h:Nat→Nat) (v:Value):(ofCI v).toD h=ofC v:=by
 cases v<;>try rfl
 ·rename_i p
  cases p<;>rfl
 ·rename_i a n c
  cases a<;>cases n<;>cases c<;>rfl
theorem toD_ofV (h:Nat→Nat) (v:Value):(ofVI v).toD h=ofV v:=by
 cases hv:v with
 |agg cs =>
  simp only[ofVI,ofV,I.toD,toDL_map,List.map_map]
  congr 1
  exact List.map_congr_left fun x _=>toD_ofC h x
 |_=>(try rfl)<;>(rw[← hv];have:=toD_ofC h v;rw[hv]at this ⊢;exact this)
structure Ef where
 t:Option Nat
 d:I
 g:Option (Nat×Nat)
 o:Option (Nat×IOwn)
def Ef.wr (e:Ef):Wr:=⟨e.t,e.g.map (·.1),e.o.map (·.1)⟩
def Ef.vl (h:Nat→Nat) (e:Ef):Vl:=⟨e.d.toD h,match e.g with|some p=>h p.1+p.2|none=>0,match e.o with|some p=>p.2.toOwn h|none=>.none⟩
def IS.eff (S:IS) (e:Ef):IS :=
 ⟨match e.t with|some t=>(t,e.d)::S.rs|none=>S.rs,match e.g with|some p=>p::S.gs|none=>S.gs,match e.o with|some p=>p::S.os|none=>S.os⟩
theorem look_cons {α β:Type} (f:α→β) (e:α) (i:Nat) (a:α) (l:List (Nat×α)):(fun j=>f (look e ((i,a)::l) j))=upd (fun j=>f (look e l j)) i (f a):=by
 funext j
 simp only[lk0,lk1,lk2,upd]
 cases Nat.beq j i<;>rfl
theorem toSt_eff (h:Nat→Nat) (S:IS) (e:Ef):(S.eff e).toSt h=(S.toSt h).app e.wr (e.vl h):=by
 obtain ⟨t,d,g,o⟩:=e
 unfold IS.toSt St.app IS.eff Ef.wr Ef.vl
 congr 1
 ·cases t with
  |none=>rfl
  |some t=>exact look_cons (I.toD h) .undef t d S.rs
 ·cases g with
  |none=>rfl
  |some p =>
   funext j
   simp only[IS.gen,lk0,lk1,lk2,Option.map_some,updO,upd]
   cases hb:Nat.beq j p.1 with
   |false=>rfl
   |true=>have:=Nat.eq_of_beq_eq_true hb;subst this;rfl
 ·cases o with
  |none=>rfl
  |some p=>exact look_cons (IOwn.toOwn h) .none p.1 p.2 S.os
mutual
def plI:I→List Nat
 |.bx s _ _=>[s]
 |.mb s _ _=>[s]
 |.os s _=>[s]
 |.op s _ _ _ _=>[s]
 |.ow s _ _ _ _=>[s]
 |.agg l=>plIL l
 |.tup l=>plIL l
 |.fn _ l=>plIL l
 |.mf _ l=>plIL l
 |_=>[]
def plIL:List I→List Nat
 |[]=>[]
 |d::l=>plI d++plIL l
end
mutual
theorem pl_toD (h:Nat→Nat):∀ d:I,plD (d.toD h)=plI d
 |.int _ _=>rfl|.bool _=>rfl|.str _=>rfl|.sl _ _=>rfl|.nsl _ l=>(by cases l<;>rfl)|.nil=>rfl|.rp _ _=>rfl|.bx _ _ _=>rfl|.mb _ _ _=>rfl|.os _ _=>rfl|.op _ _ _ _ _=>rfl|.ow _ _ _ _ _=>rfl|.yl _=>rfl|.one=>rfl|.lk _=>rfl|.er _=>rfl|.undef=>rfl
 |.agg l=>pl_toDL h l
 |.tup l=>pl_toDL h l
 |.fn _ l=>pl_toDL h l
 |.mf _ l=>pl_toDL h l
theorem pl_toDL (h:Nat→Nat):∀ l:List I,plL (I.toDL h l)=plIL l
 |[]=>rfl
 |d::l=>by simp only[I.toDL,plL,plIL,pl_toD h d,pl_toDL h l]
end
def mbI:List I→Option TypeId
 |.mb _ _ T::_=>some T
 |_=>none
theorem mbI_toD (h:Nat→Nat) (l:List I):mbT (I.toDL h l)=mbI l:=by
 cases l with
 |nil=>rfl
 |cons d l=>cases d<;>first|rfl|(rename_i t m;cases m<;>rfl)
def mbOk:Option TypeId→Option TypeId→Bool
 |none,_=>true
 |some T,some T'=>Nat.beq T T'
 |_,_=>false
theorem mbOk_ok {a b:Option TypeId} (h:mbOk a b=true):∀ T0,a=some T0→b=some T0:=fun T0 e=>by
 subst e
 cases b with
 |none=>cases h
 |some T'=>rw[Nat.eq_of_beq_eq_true h]
def plIS (Z:ISeat) (nt:Nat) (S:IS):List Operand→List Nat
 |[]=>[]
 |x::l=>plI (S.ev Z nt x)++plIS Z nt S l
def lcI (Z:ISeat) (nt:Nat) (S:IS) (o:Oper):Lc :=
 ⟨slotsOf o.op.operands.toList,(match lvl o with|0=>[]|_=>plIS Z nt S o.op.operands.toList),(match lvl o with|0=>[]|1=>[]|_=>plIS Z nt S o.op.operands.toList)⟩
def OpOk (X:Ctx) (o:Oper) (T T':St):Prop:=∀ κ sv a w,Sim X κ sv T a w→∀ K Qw,(∀ κ' sv' a' w',Sim X κ' sv' T' a' w'→K a' w')→o.wpIn X.F 0 X.Z.P a w K Qw
abbrev XaOk (X:Ctx):Prop:=∀ p,X.xa p=true→XB≤p
structure At (X:Ctx) (Z:ISeat) (nt:Nat):Prop where
 Z:X.Z=Z.toSeat
 nt:X.nt=nt
 xa:∀ p,X.xa p=true→XB≤p
theorem At.pl {X:Ctx}{Z:ISeat}{nt:Nat} (h1:X.Z=Z.toSeat) (h2:X.nt=nt) (h3:∀ p,X.xa p=false):At X Z nt:=⟨h1,h2,fun p h=>by rw[h3 p]at h;cases h⟩
section
variable {X:Ctx}{Z:ISeat}{nt:Nat}{S:IS}{o:Oper}{h:Nat→Nat}{T:St}
theorem ev_toSt (hX:At X Z nt) (x:Operand):(S.toSt h).ev X x=(S.ev Z nt x).toD h:=by
 cases x with
 |tmp t =>
  simp only[St.ev,IS.ev,hX.nt]
  cases Nat.blt t nt<;>rfl
 |const v=>exact(toD_ofV h v).symm
 |func f=>rfl
 |global g =>
  simp only[St.ev,IS.ev,hX.Z]
  rw[Z.gI_ok g h]
  cases Z.gI g<;>rfl
theorem plS_toSt (hX:At X Z nt):∀ l:List Operand,plS X (S.toSt h) l=plIS Z nt S l
 |[]=>rfl
 |x::l=>by simp only[plS,plIS,ev_toSt hX,pl_toD,plS_toSt hX l]
theorem lc_toSt (hX:At X Z nt):lcOf X (S.toSt h) o=lcI Z nt S o:=by
 simp only[lcOf,lcI,plS_toSt hX]
 cases lvl o with
 |zero=>rfl
 |succ n=>cases n<;>rfl
structure Ag (X:Ctx) (Z:ISeat) (nt:Nat) (S:IS) (h:Nat→Nat) (T:St) (o:Oper):Prop where
 at':At X Z nt
 agr:Agree (lcOf X (S.toSt h) o) (S.toSt h) T
theorem Ag.ev (ha:Ag X Z nt S h T o) {x:Operand} (hx:x∈o.op.operands.toList) {d:I} (hd:S.ev Z nt x=d):T.ev X x=d.toD h:=by
 rw[agree_ev ha.agr hx,ev_toSt ha.at',hd]
theorem Ag.γ (ha:Ag X Z nt S h T o) (hl:lvl o≠0) {x:Operand} (hx:x∈o.op.operands.toList) {s:Nat} (hs:s∈plI (S.ev Z nt x)):T.γ s=h s+S.gen s :=
 agree_γ ha.agr hl hx (by rw[ev_toSt ha.at',pl_toD];exact hs)
theorem Ag.σ (ha:Ag X Z nt S h T o) (hl:lvl o=2) {x:Operand} (hx:x∈o.op.operands.toList) {s:Nat} (hs:s∈plI (S.ev Z nt x)):T.σ s=(S.own s).toOwn h :=
 agree_σ ha.agr hl hx (by rw[ev_toSt ha.at',pl_toD];exact hs)
theorem Ag.self (hX:At X Z nt):Ag X Z nt S h (S.toSt h) o:=⟨hX,⟨fun _ _=>rfl,fun _ _=>rfl,fun _ _=>rfl⟩⟩
def EfOk (X:Ctx) (Z:ISeat) (nt:Nat) (o:Oper) (S:IS) (e:Ef):Prop:=∀ h T,Ag X Z nt S h T o→(∀ p,e.g=some p→T.γ p.1=h p.1+S.gen p.1)→OpOk X o T (T.app e.wr (e.vl h))
theorem opOk_q {d:D}{t:Nat}{g:Nat}{ow:Own} (hd:o.dst=some t) (hq:QOp X o T d):OpOk X o T (T.app ⟨some t,none,none⟩ ⟨d,g,ow⟩):=fun κ sv a w hs K Qw hK=>by
 obtain ⟨v,h1,h2⟩:=hq κ sv a w hs
 refine op_val (h2 w (Below.refl _ _)) ?_
 rw[hd]
 exact hK κ sv _ _ (hs.put (some t) h1)
theorem opOk_n {T':St} (hn:NOp X o T T'):OpOk X o T T':=fun κ sv a w hs K Qw hK=>by
 obtain ⟨v,w',κ',sv',h1,h2⟩:=hn κ sv a w hs
 rcases h1 with h1|⟨h1,rfl⟩
 ·exact op_val h1 (hK κ' sv' _ _ h2)
 ·exact op_skip h1 (hK κ' sv' _ _ h2)
theorem OpOk.wk {T1 T2:St} (h1:OpOk X o T T1) (hw:Wk X T1 T2):OpOk X o T T2:=fun κ sv a w hs K Qw hK =>
 h1 κ sv a w hs K Qw fun κ' sv' a' w' hs' =>
  let ⟨κ2,sv2,hs2⟩:=hw κ' sv' a' w' hs'
  hK κ2 sv2 a' w' hs2
def vE (t:Nat) (d:I):Ef:=⟨some t,d,none,none⟩
theorem efq {d:I}{t:Nat} (hd:o.dst=some t) (hq:∀ h T,Ag X Z nt S h T o→QOp X o T (d.toD h)):EfOk X Z nt o S (vE t d):=fun h T ha _=>opOk_q hd (hq h T ha)
end
def chk {R:Type} (b:Bool) (r:Option R):Option R:=bif b then r else none
theorem chk_some {R:Type}{b:Bool}{r:Option R}{x:R} (h:chk b r=some x):b=true∧r=some x:=by
 cases b with
 |true=>exact⟨rfl,h⟩
 |false=>cases h
section
variable {α β:Type}
def takeP:Nat→List α→Option (List α)
 |0,_=>some []
 |n+1,d::l=>match takeP n l with
  |some m=>some (d::m)
  |none=>none
 |_+1,[]=>none
def dropP:Nat→List α→List α
 |0,l=>l
 |n+1,_::l=>dropP n l
 |_+1,[]=>[]
def overP:List α→Nat→List α→Option (List α)
 |l,0,[]=>some l
 |_::l,0,d::m=>match overP l 0 m with
  |some k=>some (d::k)
  |none=>none
 |x::l,j+1,m=>match overP l j m with
  |some k=>some (x::k)
  |none=>none
 |[],_,_=>none
def bldP (pl:Nat→Option (Nat×Nat)):List α→List (Nat×List α)→Option (List α)
 |l,[]=>some l
 |l,(i,m)::rest=>match pl i with
  |some (off,sz)=>bif Nat.beq m.length sz then (match overP l off m with|some l'=>bldP pl l' rest|none=>none) else none
  |none=>none
end
theorem take_map (h:Nat→Nat):∀ {n:Nat}{l m:List I},takeP n l=some m→takeN n (I.toDL h l)=some (I.toDL h m)
 |0,l,m,e=>by simp[takeP]at e;subst e;rfl
 |n+1,[],m,e=>by simp[takeP]at e
 |n+1,d::l,m,e=>by
  unfold takeP at e
  cases h1:takeP n l with
  |none=>rw[h1]at e;cases e
  |some m' =>
   rw[h1]at e
   simp only[Option.some.injEq]at e
   subst e
   simp only[I.toDL,takeN,take_map h h1]
theorem drop_map (h:Nat→Nat):∀ (n:Nat) (l:List I),dropN n (I.toDL h l)=I.toDL h (dropP n l)
 |0,l=>by simp[dropN,dropP]
 |n+1,[]=>by simp[dropN,dropP,I.toDL]
 |n+1,d::l=>by simp only[I.toDL,dropN,dropP,drop_map h n l]
theorem over_map (h:Nat→Nat):∀ {l m k:List I}{j:Nat},overP l j m=some k→overN (I.toDL h l) j (I.toDL h m)=some (I.toDL h k)
 |l,[],k,0,e=>by
  cases l<;>(simp[overP]at e;subst e;simp[I.toDL,overN])
 |[],m,k,j+1,e=>by simp[overP]at e
 |[],d::m,k,0,e=>by simp[overP]at e
 |x::l,d::m,k,0,e=>by
  unfold overP at e
  cases h1:overP l 0 m with
  |none=>rw[h1]at e;cases e
  |some k' =>
   rw[h1]at e
   simp only[Option.some.injEq]at e
   subst e
   simp only[I.toDL,overN,over_map h h1]
 |x::l,m,k,j+1,e=>by
  unfold overP at e
  cases h1:overP l j m with
  |none=>rw[h1]at e;cases e
  |some k' =>
   rw[h1]at e
   simp only[Option.some.injEq]at e
   subst e
   have:=over_map h h1
   cases m<;>simp only[I.toDL,overN]at this ⊢<;>rw[this]
theorem toDL_len (h:Nat→Nat) (l:List I):(I.toDL h l).length=l.length:=by simp[toDL_map]
theorem bld_map (h:Nat→Nat) (pl:Nat→Option (Nat×Nat)):∀ {ps:List (Nat×List I)}{l k:List I},bldP pl l ps=some k→bldN pl (I.toDL h l) (ps.map fun p=>(p.1,I.toDL h p.2))=some (I.toDL h k)
 |[],l,k,e=>by simp[bldP]at e;subst e;rfl
 |(i,m)::ps,l,k,e=>by
  simp only[bldP]at e
  simp only[List.map_cons,bldN,toDL_len]
  cases hp:pl i with
  |none=>rw[hp]at e;cases e
  |some q =>
   obtain ⟨off,sz⟩:=q
   rw[hp]at e
   simp only at e ⊢
   cases hb:Nat.beq m.length sz with
   |false=>rw[hb]at e;cases e
   |true =>
    rw[hb]at e
    simp only[cond_true]at e ⊢
    cases ho:overP l off m with
    |none=>rw[ho]at e;cases e
    |some l' =>
     rw[ho]at e
     rw[over_map h ho]
     exact bld_map h pl e
theorem nth_map (h:Nat→Nat):∀ {l:List I}{n:Nat}{d:I},nth l n=some d→nth (I.toDL h l) n=some (d.toD h)
 |[],n,d,e=>by simp[nth]at e
 |x::l,0,d,e=>by simp[nth]at e;subst e;rfl
 |x::l,n+1,d,e=>by simp only[nth]at e;simp only[I.toDL,nth];exact nth_map h e
def I.isCell:I→Bool
 |.agg _|.tup _|.undef=>false
 |_=>true
def I.cells:I→List I
 |.agg l=>l
 |d=>[d]
def allC:List I→Bool
 |[]=>true
 |d::l=>d.isCell&&allC l
theorem isCell_toD (h:Nat→Nat) (d:I):(d.toD h).isCell=d.isCell:=by cases d<;>first|rfl|(rename_i l;cases l<;>rfl)
theorem allC_toDL (h:Nat→Nat):∀ l:List I,allCell (I.toDL h l)=allC l
 |[]=>rfl
 |d::l=>by simp only[I.toDL,allCell,allC,isCell_toD,allC_toDL h l]
theorem cells_toD (h:Nat→Nat) (d:I):(d.toD h).cells=I.toDL h d.cells:=by cases d<;>first|rfl|(rename_i l;cases l<;>rfl)
def zI:Zr→I
 |.i k=>.int k 0
 |.b=>.bool false
 |.s=>.str ⟨#[]⟩
 |.sl=>.nil
 |.o=>.one
 |.np=>.lk .np
 |.ni=>.er true
theorem zI_toDL (h:Nat→Nat):∀ zs:List Zr,I.toDL h (zs.map zI)=zs.map Zr.toD
 |[]=>rfl
 |z::zs=>by simp only[List.map_cons,I.toDL,zI_toDL h zs];cases z<;>rfl
end
end Go.Ab
namespace Go.Ab
open Go Go.RowKit
set_option linter.all false
def okB8 (l:List Int):Bool:=l.all fun n=>decide (0≤n)&&decide (n<256)
def byB8 (l:List Int):List UInt8:=l.map fun n=>UInt8.ofNat n.toNat
theorem okB8_at {l:List Int} (h:okB8 l=true) {j:Nat} (hj:j<l.length):0≤l[j]∧l[j]<256:=by
 have:=List.all_eq_true.1 h _ (List.getElem_mem hj)
 simpa using this
section
variable {X:Ctx}{o:Oper}{S:St}{x:Operand}
theorem q_cvB {T T2 e:TypeId}{l:List Int}{f:Nat→List D} (ho:o.op=.convert T T2 x) (hT:X.Z.P.underlying T=some (.slice e)) (he:X.Z.P.underlying e=some (.int .u8)) (hT2:X.Z.P.underlying T2=some .string)
  (hx:S.ev X x=.sl 1 l.length f) (hf:∀ i,i<l.length→f i=[.int .u8 (l.getD i 0)]) (h8:okB8 l=true) (h0:l≠[]):QOp X o S (.str ⟨(byB8 l).toArray⟩):=fun κ sv a w hs=>by
 have h1:=hs.ev x
 rw[hx]at h1
 generalize hn:l.length=n at h1
 generalize hv:a.eval x=v at h1
 have hpos:0<n:=by rw[← hn];exact List.length_pos_iff.2 h0
 cases h1 with
 |sl0=>omega
 |slE=>omega
 |sl _ _ _ b off cap u hc hl hcell hr hκ =>
  refine ⟨.string ⟨(byB8 l).toArray⟩,.str _,fun w' hb=>?_⟩
  have hlen:(byB8 l).length=n:=by unfold byB8;rw[List.length_map,hn]
  have hcells:∀ j (hj:j<(byB8 l).length),w'.cell? (Addr.add ⟨b,off,none⟩ j)=some (.int .u8 ((byB8 l)[j].toNat:Int)):=fun j hj=>by
   have hj':j<n:=by omega
   have r:=hr j hj'
   rw[hf j (by omega)]at r
   have hu:u j=[.int .u8 (l.getD j 0)]:=by
    generalize u j=uj at r
    cases r with
    |cons _ v _ vs r1 r2=>cases r1;cases r2;rfl
   have hk:=hκ j 0 (.int .u8 (l.getD j 0)) hj' (by rw[hu];rfl)
   rw[Nat.mul_one,Nat.add_zero]at hk
   have hc:=hs.wld.imm _ _ _ hk
   have e:Addr.add ⟨b,off,none⟩ j=⟨b,off+j,none⟩:=by simp[Addr.add]
   rw[e,(hb.cell (World.block_lt_of_cell? w _ hc)).trans hc]
   have hjl:j<l.length:=by omega
   have h2:=okB8_at h8 hjl
   rw[List.getD_eq_getElem?_getD,List.getElem?_eq_getElem hjl]
   have e2:(byB8 l)[j]'hj=UInt8.ofNat (l[j]).toNat:=by simp[byB8]
   rw[e2,UInt8.toNat_ofNat',Option.getD_some]
   congr 2
   omega
  have:=run_convert_bytes_back (P:=X.Z.P) w' T T2 e ⟨b,off,none⟩ cap (byB8 l) hT he hT2 hcells
  rw[hlen]at this
  simp only[execOp,ho,hv]
  simp[this]
end
end Go.Ab
namespace Go.Ab
open Go Go.RowKit
set_option linter.all false
set_option maxHeartbeats 1000000
noncomputable section
section
variable {R:Type}{X:Ctx}{Z:ISeat}{nt:Nat}{S:IS}{o:Oper}{r:R}{k:Ef→Option R}{t:Nat}
def isNil:Operand→Bool
 |.const (.slice none 0 0)=>true
 |_=>false
theorem isNil_eq {x:Operand} (h:isNil x=true):x=.const (.slice none 0 0):=by
 unfold isNil at h
 split at h
 ·rfl
 ·cases h
def slTy (Z:ISeat) (ty:Nat):Option (Nat×T):=match nth Z.tab ty with
 |some r=>bif Nat.beq r.k 3 then (match Z.ty r.el with|some t=>some (r.el,t)|none=>none) else none
 |none=>none
def ownE (S:IS) (t s:Nat) (ow:IOwn):Ef:=⟨some t,.os s (S.gen s+1),some (s,S.gen s+1),some (s,ow)⟩
theorem owned_app {h:Nat→Nat}{T:St}{t s:Nat}{ow:IOwn} (hγ:T.γ s=h s+S.gen s):T.owned t s (ow.toOwn h)=T.app (ownE S t s ow).wr ((ownE S t s ow).vl h):=by
 unfold St.owned St.app ownE Ef.wr Ef.vl
 rw[hγ];rfl
theorem n_nil {T:St}{x:Operand}{E z:Nat}{f:Nat→List D} (ho:o.op=.move x∨o.op=.assign x) (hd:o.dst=some t) (hx:x=.const (.slice none 0 0)):NOp X o T (T.owned t t (.arr E z 0 f)):=fun κ sv a w hs=>by
 subst hx
 refine ⟨.slice none 0 0,w,κ,upd sv t (.slice none 0 0),.inl ?_,?_⟩
 ·rcases ho with ho|ho<;>simp[execOp,ho,Act.eval]
 ·rw[hd]
  exact sim_owned hs t t (pv:=.slice none 0 0) (ow:=.arr E z 0 f) rfl (below_grown (Below.refl _ _) _) (fun b hb=>by cases hb)
   ⟨[],by rw[upd_same];exact ownsAt_nil _ _ _ _,fun _ h=>by omega,fun _ h=>by omega,fun _ h=>by omega⟩
def opMv (Z:ISeat) (nt:Nat) (S:IS) (ty:Nat) (t:Nat) (x:Operand) (k:Ef→Option R):Option R :=
 bif isNil x then (match slTy Z ty with|some p=>k (ownE S t t (.arr p.1 p.2 []))|none=>k (vE t .nil)) else k (vE t (S.ev Z nt x))
theorem opMv_ok {x:Operand}{ty:Nat} (ho:o.op=.move x∨o.op=.assign x) (hd:o.dst=some t) (h:opMv Z nt S ty t x k=some r):∃ e,k e=some r∧EfOk X Z nt o S e:=by
 have q:EfOk X Z nt o S (vE t (S.ev Z nt x)):=efq hd fun h T ha=>by
  rcases ho with ho|ho
  ·exact q_move ho (ha.ev (by rw[ho];simp[Op.operands]) rfl)
  ·exact q_assign ho (ha.ev (by rw[ho];simp[Op.operands]) rfl)
 unfold opMv at h
 cases hn:isNil x with
 |false=>rw[hn]at h;exact⟨_,h,q⟩
 |true =>
  rw[hn]at h
  have hx:=isNil_eq hn
  simp only[cond_true]at h
  cases hs:slTy Z ty with
  |none =>
   rw[hs]at h
   have:S.ev Z nt x=.nil:=by rw[hx];rfl
   rw[this]at q
   exact⟨_,h,q⟩
  |some p =>
   rw[hs]at h
   refine ⟨_,h,fun h T ha hg=>?_⟩
   rw[← owned_app (hg _ rfl)]
   exact opOk_n (n_nil ho hd hx)
theorem opNilMv_ok {x:Operand} (ho:o.op=.move x∨o.op=.assign x) (hd:o.dst=some t) (hn:isNil x=true) (h:k (vE t .nil)=some r):∃ e,k e=some r∧EfOk X Z nt o S e:=by
 have hx:=isNil_eq hn
 have q:EfOk X Z nt o S (vE t (S.ev Z nt x)):=efq hd fun h T ha=>by
  rcases ho with ho|ho
  ·exact q_move ho (ha.ev (by rw[ho];simp[Op.operands]) rfl)
  ·exact q_assign ho (ha.ev (by rw[ho];simp[Op.operands]) rfl)
 have:S.ev Z nt x=.nil:=by rw[hx];rfl
 rw[this]at q
 exact⟨_,h,q⟩
def opPk (Z:ISeat) (nt:Nat) (S:IS) (t:Nat) (c x y:Operand) (k:Ef→Option R):Option R:=match S.ev Z nt c with
 |.bool b=>bif b then k (vE t (S.ev Z nt x)) else k (vE t (S.ev Z nt y))
 |_=>none
theorem opPk_ok {c x y:Operand} (ho:o.op=.pick c x y) (hd:o.dst=some t) (h:opPk Z nt S t c x y k=some r):∃ e,k e=some r∧EfOk X Z nt o S e:=by
 unfold opPk at h
 split at h
 ·rename_i b hb
  cases b with
  |true=>exact⟨_,h,efq hd fun h T ha=>q_pickT ho (ha.ev (by rw[ho];simp[Op.operands]) hb) (ha.ev (by rw[ho];simp[Op.operands]) rfl)⟩
  |false=>exact⟨_,h,efq hd fun h T ha=>q_pickF ho (ha.ev (by rw[ho];simp[Op.operands]) hb) (ha.ev (by rw[ho];simp[Op.operands]) rfl)⟩
 ·cases h
def zh:Nat→Nat:=fun _=>0
theorem eqL_h (h:Nat→Nat):∀ {l m:List I}{b:Bool},eqL (I.toDL zh l) (I.toDL zh m)=some b→eqL (I.toDL h l) (I.toDL h m)=some b
 |[],[],b,e=>e
 |[],_::_,b,e=>by simp[I.toDL,eqL]at e
 |x::l,[],b,e=>by cases x<;>first|(simp[I.toDL,I.toD,eqL,slD]at e;done)|(simp only[I.toDL,I.toD,slN]at e;split at e<;>simp[eqL,slD]at e)
 |x::l,y::m,b,e=>by
  cases x<;>cases y<;>(try (simp only[I.toDL,I.toD,slN]at e;repeat' split at e)<;>(simp[eqL,slD]at e;done))<;>simp only[I.toDL,I.toD,eqL,slD]at e ⊢<;>try (cases e;done)
  ·cases hk:(_:IntKind) == _ with
   |false=>simp[hk]at e
   |true =>
    simp only[hk]at e ⊢
    cases hr:eqL (I.toDL zh l) (I.toDL zh m) with
    |none=>rw[hr]at e;simp at e
    |some r=>rw[hr]at e;rw[eqL_h h hr];exact e
  ·cases hr:eqL (I.toDL zh l) (I.toDL zh m) with
   |none=>rw[hr]at e;simp at e
   |some r=>rw[hr]at e;rw[eqL_h h hr];exact e
theorem fieldOk_h (h:Nat→Nat) (P:Program) (f:Field) (d:I):fieldOk P f (d.toD h)=fieldOk P f (d.toD zh):=by cases d<;>first|rfl|(rename_i l;cases l<;>rfl)
theorem fieldsOk_h (h:Nat→Nat) (P:Program):∀ (fs:List Field) (l:List I) (n:Nat),fieldsOk P fs (I.toDL h l) n=fieldsOk P fs (I.toDL zh l) n
 |[],[],n=>rfl
 |[],_::_,n=>rfl
 |_::_,[],n=>rfl
 |f::fs,d::l,n=>by simp only[I.toDL,fieldsOk,fieldOk_h h,fieldsOk_h h P fs l]
theorem flatB_h (h:Nat→Nat) (P:Program) (ty:TypeId) (l:List I):flatB P ty (I.toDL h l)=flatB P ty (I.toDL zh l):=by
 unfold flatB
 split
 ·rw[fieldsOk_h]
 ·rfl
theorem fields2Ok_h (h:Nat→Nat) (P:Program):∀ (fs:List Field) (l:List I) (n:Nat),fields2Ok P fs (I.toDL h l) n=fields2Ok P fs (I.toDL zh l) n
 |[],[],n=>rfl
 |[],_::_,n=>rfl
 |f::fs,l,n=>by
  have e1:∀ h:Nat→Nat,∀ (l:List I) k,(I.toDL h l).take k=I.toDL h (l.take k):=fun h l k=>by simp[toDL_map,List.map_take]
  have e2:∀ h:Nat→Nat,∀ (l:List I) k,(I.toDL h l).drop k=I.toDL h (l.drop k):=fun h l k=>by simp[toDL_map,List.map_drop]
  have e3:∀ (l:List I),(I.toDL h l).length=(I.toDL zh l).length:=fun l=>by simp[toDL_map]
  simp only[fields2Ok,e1,e2,flatB_h h,e3,fields2Ok_h h P fs]
theorem flatA_h (h:Nat→Nat) (P:Program) (ty:TypeId) (l:List I):flatA P ty (I.toDL h l)=flatA P ty (I.toDL zh l):=by
 unfold flatA flat2B
 rw[flatB_h]
 split
 ·rw[fields2Ok_h]
 ·rfl
def isCn:Operand→Bool
 |.const _=>true
 |_=>false
def opBin (Z:ISeat) (cn:Bool) (t:Nat) (op:BinOp) (ty:TypeId) (k:Ef→Option R):I→I→Option R
 |.int k1 m,.int k2 n=>match op with
  |.eql=>chk (decide (k1=k2)) (k (vE t (.bool (m == n))))
  |.neq=>chk (decide (k1=k2)) (k (vE t (.bool (m != n))))
  |.lss=>chk (decide (k1=k2)) (k (vE t (.bool (decide (m<n)))))
  |.leq=>chk (decide (k1=k2)) (k (vE t (.bool (decide (m≤n)))))
  |.gtr=>chk (decide (k1=k2)) (k (vE t (.bool (decide (m > n)))))
  |.geq=>chk (decide (k1=k2)) (k (vE t (.bool (decide (m ≥ n)))))
  |.add=>chk (decide (k1=k2)) (k (vE t (.int k1 (k1.wrap (m+n)))))
  |.sub=>chk (decide (k1=k2)) (k (vE t (.int k1 (k1.wrap (m - n)))))
  |.mul=>chk (decide (k1=k2)) (k (vE t (.int k1 (k1.wrap (m * n)))))
  |.quo=>chk (decide (k1=k2)) (chk (n != 0) (k (vE t (.int k1 (k1.wrap (m.tdiv n))))))
  |.rem=>chk (decide (k1=k2)) (chk (n != 0) (k (vE t (.int k1 (m.tmod n)))))
  |.xor=>chk (decide (k1=k2)) (k (vE t (.int k1 (k1.wrap (BitVec.ofInt k1.bits m ^^^ BitVec.ofInt k1.bits n).toNat))))
  |.and=>chk (decide (k1=k2)) (k (vE t (.int k1 (k1.wrap (BitVec.ofInt k1.bits m &&& BitVec.ofInt k1.bits n).toNat))))
  |.andNot=>chk (decide (k1=k2)) (k (vE t (.int k1 (k1.wrap (BitVec.ofInt k1.bits m &&& ~~~BitVec.ofInt k1.bits n).toNat))))
  |.shr=>chk (decide (0≤n)) (k (vE t (.int k1 (m.fdiv (2 ^ (min n.toNat k1.bits))))))
  |.shl=>chk (decide (0≤n)) (k (vE t (.int k1 (k1.wrap (m * 2 ^ (min n.toNat k1.bits))))))
  |_=>none
 |.bool a,.bool b=>match op with
  |.eql=>chk (Z.isB ty) (k (vE t (.bool (a == b))))
  |.neq=>chk (Z.isB ty) (k (vE t (.bool (!(a == b)))))
  |_=>none
 |.str a,.str b=>(match op with
  |.eql=>k (vE t (.bool (a.toList == b.toList)))
  |.neq=>k (vE t (.bool (!(a.toList == b.toList))))
  |.add=>chk (decide (a.size+b.size≤9223372036854775807)) (k (vE t (.str (catS a b))))
  |_=>none)
 |.agg l,.agg m=>chk (flatA Z.P ty (I.toDL zh l)) (match eqL (I.toDL zh l) (I.toDL zh m) with
  |some b=>(match op with
   |.eql=>k (vE t (.bool b))
   |.neq=>k (vE t (.bool (!b)))
   |_=>none)
  |none=>none)
 |.nsl _ l,.nil=>(match op with
  |.eql=>(match nth Z.tab ty with
   |some q=>chk (Nat.beq q.k 3) (k (vE t (.bool l.isEmpty)))
   |none=>none)
  |_=>none)
 |.nil,.nil=>(match op with
  |.eql=>(match nth Z.tab ty with
   |some q=>chk (Nat.beq q.k 3) (k (vE t (.bool true)))
   |none=>none)
  |_=>none)
 |.sl _ l,.nil=>(match op with
  |.eql=>(match nth Z.tab ty with
   |some q=>chk (Nat.beq q.k 3&&!l.isEmpty) (k (vE t (.bool false)))
   |none=>none)
  |_=>none)
 |.er a,.er b=>chk (Z.isI ty&&b&&cn) (match op with
  |.eql=>k (vE t (.bool a))
  |.neq=>k (vE t (.bool (!a)))
  |_=>none)
 |_,_=>none
theorem q_eqE {T:St}{ty ty2:TypeId}{x y:Operand}{c:Bool} (hc:isCn y=true) (hi:X.Z.P.underlying ty=some (.interface (X.Z.P.methodsAt ty))) (hx:T.ev X x=.lk (ofB c)) (hy:T.ev X y=.lk (ofB true)) :
  (o.op=.binOp .eql ty x y ty2→QOp X o T (.bool c))∧(o.op=.binOp .neq ty x y ty2→QOp X o T (.bool (!c))):=by
 have key:∀ {κ sv a w},Sim X κ sv T a w→a.eval y=.nilIface∧((c=true∧a.eval x=.nilIface)∨(c=false∧∃ t p,a.eval x=.iface t p)):=fun {κ sv a w} hs=>by
  have h1:=hs.ev x
  rw[hx]at h1
  have h2:=hs.ev y
  rw[hy]at h2
  generalize a.eval x=xv at h1
  generalize a.eval y=yv at h2
  cases h2 with
  |lk _ _ e2 =>
  cases h1 with
  |lk _ _ e1 =>
  refine ⟨e2,?_⟩
  cases c with
  |true=>exact .inl ⟨rfl,e1⟩
  |false=>exact .inr ⟨rfl,e1⟩
 have gd:∀ (w:World) (op:BinOp) (v:Value),(eqGuard op ty x y v .nilIface).run X.Z.P w=.ok () w:=fun w op v=>by
  unfold eqGuard
  cases y with
  |const cv=>cases op<;>cases v<;>simp
  |_=>cases hc
 constructor<;>intro ho κ sv a w hs
 ·obtain ⟨e1,e2⟩:=key hs
  refine ⟨.bool c,.bool _,fun w' _=>?_⟩
  rcases e2 with ⟨rfl,e2⟩|⟨rfl,t,p,e2⟩
  ·simp[execOp,ho,e1,e2,gd,run_eql_nil_nil w' ty hi]
  ·simp[execOp,ho,e1,e2,gd,run_eql_held_nil w' ty t p hi]
 ·obtain ⟨e1,e2⟩:=key hs
  refine ⟨.bool (!c),.bool _,fun w' _=>?_⟩
  rcases e2 with ⟨rfl,e2⟩|⟨rfl,t,p,e2⟩
  ·simp[execOp,ho,e1,e2,gd,run_neq_nil_nil w' ty hi]
  ·simp[execOp,ho,e1,e2,gd,run_neq_held_nil w' ty t p hi]
theorem q_eqnilN {T:St}{ty ty2:TypeId}{x y:Operand}{u:Go.Ab.T}{l:List (den u)}{q:TRow} (ho:o.op=.binOp .eql ty x y ty2) (hr:nth X.Z.tab ty=some q) (hk:Nat.beq q.k 3=true) (hx:T.ev X x=slN u l) (hy:T.ev X y=.nil):QOp X o T (.bool l.isEmpty):=fun κ sv a w hs=>by
 have hu:=slice_row (X.Z.tabOk _ _ hr (by intro e;rw[e]at hk;cases hk)) hk
 have h1:=hs.ev x
 rw[hx]at h1
 have h2:=hs.ev y
 rw[hy]at h2
 generalize hxe:a.eval x=xv at h1
 generalize hye:a.eval y=yv at h2
 cases h2
 refine ⟨.bool l.isEmpty,.bool _,fun w' _=>?_⟩
 cases l with
 |nil =>
  cases h1
  simp[execOp,ho,hxe,hye,eqGuard,run_eqnil hu]
 |cons b l =>
  have h1:Rep κ T.γ sv (slD u (b::l)) xv:=h1
  generalize hn:(b::l)=m at h1 ⊢
  have hm:m.length≠0:=by rw[← hn];simp
  have hme:m.isEmpty=false:=by rw[← hn];rfl
  unfold slD at h1
  generalize hz:m.length=z at h1 hm
  cases h1 with
  |sl _ _ _ b off cap u q1 q2 q3 q4 q5=>simp[execOp,ho,hxe,hye,eqGuard,run_eqnil hu,hme]
  |sl0=>exact absurd rfl hm
  |slE=>exact absurd rfl hm
theorem opBin_ok (hX:At X Z nt) {op:BinOp}{ty ty2:TypeId}{x y:Operand} (ho:o.op=.binOp op ty x y ty2) (hd:o.dst=some t) (h:opBin Z (isCn y) t op ty k (S.ev Z nt x) (S.ev Z nt y)=some r):∃ e,k e=some r∧EfOk X Z nt o S e:=by
 have mx:x∈o.op.operands.toList:=by rw[ho];simp[Op.operands]
 have my:y∈o.op.operands.toList:=by rw[ho];simp[Op.operands]
 unfold opBin at h
 split at h
 ·rename_i k1 m k2 n hx hy
  have cm:∀ {b:Bool},k1=k2→cmpI op m n=some b→EfOk X Z nt o S (vE t (.bool b)):=fun e hc=>by
   subst e
   exact efq hd fun h T ha=>q_cmp ho (ha.ev mx hx) (ha.ev my hy) hc
  have ar:∀ {e:Int},k1=k2→arithI op m n=some e→EfOk X Z nt o S (vE t (.int k1 (k1.wrap e))):=fun e hc=>by
   subst e
   exact efq hd fun h T ha=>q_arithw ho (ha.ev mx hx) (ha.ev my hy) hc
  split at h<;>first
   |(obtain ⟨h1,h2⟩:=chk_some h;exact⟨_,h2,cm (of_decide_eq_true h1) rfl⟩)
   |(obtain ⟨h1,h2⟩:=chk_some h;exact⟨_,h2,ar (of_decide_eq_true h1) rfl⟩)
   | (obtain ⟨h1, h⟩ := chk_some h
      obtain ⟨h3,h2⟩:=chk_some h
      have:=of_decide_eq_true h1
      subst this
      have hn:n≠0:=by simpa using h3
      refine ⟨_,h2,efq hd fun h T ha=>?_⟩
      first
     |exact q_quot ho (ha.ev mx hx) (ha.ev my hy) hn
     |exact q_remt ho (ha.ev mx hx) (ha.ev my hy) hn)
   | (obtain ⟨h1, h2⟩ := chk_some h
      have:=of_decide_eq_true h1
      subst this
      refine ⟨_,h2,efq hd fun h T ha=>?_⟩
      first
     |(have hq:=q_xor ho (ha.ev mx hx) (ha.ev my hy);exact hq)
     |(have hq:=q_and ho (ha.ev mx hx) (ha.ev my hy);exact hq)
     |(have hq:=q_andNot ho (ha.ev mx hx) (ha.ev my hy);exact hq))
   | (obtain ⟨h1, h2⟩ := chk_some h
      have:=of_decide_eq_true h1
      refine ⟨_,h2,efq hd fun h T ha=>?_⟩
      first
     |exact q_shr ho (ha.ev mx hx) (ha.ev my hy) this
     |exact q_shl ho (ha.ev mx hx) (ha.ev my hy) this)
   |cases h
 ·rename_i a b hx hy
  split at h
  ·obtain ⟨h1,h2⟩:=chk_some h
   exact⟨_,h2,efq hd fun h T ha=>q_beq ho (by rw[hX.Z];exact Z.isB_ok _ h1) (ha.ev mx hx) (ha.ev my hy)⟩
  ·obtain ⟨h1,h2⟩:=chk_some h
   exact⟨_,h2,efq hd fun h T ha=>q_bneq ho (by rw[hX.Z];exact Z.isB_ok _ h1) (ha.ev mx hx) (ha.ev my hy)⟩
  ·cases h
 ·rename_i a b hx hy
  split at h
  ·exact⟨_,h,efq hd fun h T ha=>q_eqS ho (ha.ev mx hx) (ha.ev my hy)⟩
  ·exact⟨_,h,efq hd fun h T ha=>q_neS ho (ha.ev mx hx) (ha.ev my hy)⟩
  ·obtain ⟨h1,h2⟩:=chk_some h
   exact⟨_,h2,efq hd fun h T ha=>q_addS ho (ha.ev mx hx) (ha.ev my hy) (of_decide_eq_true h1)⟩
  ·cases h
 ·rename_i l m hx hy
  obtain ⟨h1,h⟩:=chk_some h
  split at h
  ·rename_i b hb
   split at h
   ·exact⟨_,h,efq hd fun h T ha=>q_eqA ho (ha.ev mx hx) (ha.ev my hy) (eqL_h h hb) (by rw[hX.Z,flatA_h];exact h1)⟩
   ·exact⟨_,h,efq hd fun h T ha=>q_neA ho (ha.ev mx hx) (ha.ev my hy) (eqL_h h hb) (by rw[hX.Z,flatA_h];exact h1)⟩
   ·cases h
  ·cases h
 ·rename_i u l hx hy
  split at h
  ·split at h
   ·rename_i q hq
    obtain ⟨h1,h2⟩:=chk_some h
    exact⟨_,h2,efq hd fun h T ha=>q_eqnilN ho (by rw[hX.Z];exact hq) h1 (ha.ev mx hx) (ha.ev my hy)⟩
   ·cases h
  ·cases h
 ·rename_i hx hy
  split at h
  ·split at h
   ·rename_i q hq
    obtain ⟨h1,h2⟩:=chk_some h
    exact⟨_,h2,efq hd fun h T ha=>q_eqnilN (u:=.bool) (l:=[]) ho (by rw[hX.Z];exact hq) h1 (ha.ev mx hx) (ha.ev my hy)⟩
   ·cases h
  ·cases h
 ·rename_i u l hx hy
  split at h
  ·split at h
   ·rename_i q hq
    obtain ⟨h1,h2⟩:=chk_some h
    cases l with
    |nil=>simp at h1
    |cons b l =>
     simp only[List.isEmpty_cons,Bool.not_false,Bool.and_true]at h1
     exact⟨_,h2,efq hd fun h T ha=>q_eqnilN (l:=b::l) ho (by rw[hX.Z];exact hq) h1 (ha.ev mx hx) (ha.ev my hy)⟩
   ·cases h
  ·cases h
 ·rename_i c b hx hy
  obtain ⟨h1,h5⟩:=chk_some h
  simp only[Bool.and_eq_true]at h1
  obtain ⟨⟨hi,hb⟩,hcn⟩:=h1
  have hi':=Z.isI_ok _ hi
  subst hb
  clear h
  split at h5
  ·exact⟨_,h5,efq hd fun h T ha=>(q_eqE (ty2:=ty2) hcn (by rw[hX.Z];exact hi') (ha.ev mx hx) (ha.ev my hy)).1 ho⟩
  ·exact⟨_,h5,efq hd fun h T ha=>(q_eqE (ty2:=ty2) hcn (by rw[hX.Z];exact hi') (ha.ev mx hx) (ha.ev my hy)).2 ho⟩
  ·cases h5
 ·cases h
theorem q_negw {T:St}{ty:TypeId}{x:Operand}{kk:IntKind}{n:Int} (ho:o.op=.unOp .neg ty x) (hx:T.ev X x=.int kk n):QOp X o T (.int kk (kk.wrap (-n))):=fun κ sv a w hs =>
 ⟨.int kk (kk.wrap (-n)),.int _ _,fun w' _=>by simp[execOp,ho,ev_int hs hx,Op.unary,Op.intArith]⟩
def opUn (t:Nat) (op:UnOp) (k:Ef→Option R):I→Option R
 |.bool b=>match op with|.not=>k (vE t (.bool (!b)))|_=>none
 |.int kk n=>match op with|.neg=>k (vE t (.int kk (kk.wrap (-n))))|_=>none
 |_=>none
theorem opUn_ok {op:UnOp}{ty:TypeId}{x:Operand} (ho:o.op=.unOp op ty x) (hd:o.dst=some t) (h:opUn t op k (S.ev Z nt x)=some r):∃ e,k e=some r∧EfOk X Z nt o S e:=by
 have mx:x∈o.op.operands.toList:=by rw[ho];simp[Op.operands]
 unfold opUn at h
 split at h
 ·rename_i b hx
  split at h
  ·exact⟨_,h,efq hd fun h T ha=>q_not ho (ha.ev mx hx)⟩
  ·cases h
 ·rename_i b hx
  split at h
  ·exact⟨_,h,efq hd fun h T ha=>q_negw ho (ha.ev mx hx)⟩
  ·cases h
 ·cases h
def isU8o (Z:ISeat) (e:Nat):Bool:=match Z.ik e with|some .u8=>true|_=>false
theorem isU8o_ok {e:Nat} (h:isU8o Z e=true):Z.ik e=some .u8:=by
 unfold isU8o at h
 split at h
 ·assumption
 ·cases h
def opCv (Z:ISeat) (t:Nat) (ty ty2:TypeId) (k:Ef→Option R):I→Option R
 |.int _ n=>chk ((Z.ik ty).isSome) (match Z.ik ty2 with|some k2=>k (vE t (.int k2 (k2.wrap n)))|none=>none)
 |.sl (.int .u8) l=>chk (Z.isS ty2) (match nth Z.tab ty with
  |some r=>chk (Nat.beq r.k 3) (chk (!Nat.beq r.k 9) (chk (isU8o Z r.el) (chk (!l.isEmpty) (chk (okB8 l) (k (vE t (.str ⟨(byB8 l).toArray⟩)))))))
  |none=>none)
 |_=>none
theorem opCv_ok (hX:At X Z nt) {ty ty2:TypeId}{x:Operand} (ho:o.op=.convert ty ty2 x) (hd:o.dst=some t) (h:opCv Z t ty ty2 k (S.ev Z nt x)=some r):∃ e,k e=some r∧EfOk X Z nt o S e:=by
 have mx:x∈o.op.operands.toList:=by rw[ho];simp[Op.operands]
 unfold opCv at h
 split at h
 ·rename_i kk n hx
  obtain ⟨h1,h⟩:=chk_some h
  obtain ⟨k1,e1⟩:=Option.isSome_iff_exists.1 h1
  split at h
  ·rename_i k2 e2
   exact⟨_,h,efq hd fun h T ha=>q_conv ho (by rw[hX.Z,Z.ik_ok _ _ e1];rfl) (by rw[hX.Z];exact Z.ik_ok _ _ e2) (ha.ev mx hx)⟩
  ·cases h
 ·rename_i l hx
  obtain ⟨h1,h⟩:=chk_some h
  split at h
  ·rename_i q hq
   obtain ⟨h2,h⟩:=chk_some h
   obtain ⟨h3,h⟩:=chk_some h
   obtain ⟨h4,h⟩:=chk_some h
   obtain ⟨h5,h⟩:=chk_some h
   obtain ⟨h6,h⟩:=chk_some h
   have hok:=Z.tabOk _ _ hq (by intro e;rw[e]at h3;cases h3)
   refine ⟨_,h,efq hd fun h T ha=>q_cvB (l:=l) ho (by rw[hX.Z];exact slice_row hok h2) (by rw[hX.Z];exact Z.ik_ok _ _ (isU8o_ok h4)) (by rw[hX.Z];exact Z.isS_ok _ h1) (ha.ev mx hx) (fun i _=>rfl) h6 (fun e=>by subst e;cases h5)⟩
  ·cases h
 ·cases h
def opEx (t i:Nat) (k:Ef→Option R):I→Option R
 |.tup l=>match nth l i with|some d=>k (vE t d)|none=>none
 |_=>none
theorem opEx_ok {i:Nat}{x:Operand} (ho:o.op=.extract x i) (hd:o.dst=some t) (h:opEx t i k (S.ev Z nt x)=some r):∃ e,k e=some r∧EfOk X Z nt o S e:=by
 have mx:x∈o.op.operands.toList:=by rw[ho];simp[Op.operands]
 unfold opEx at h
 split at h
 ·rename_i l hx
  split at h
  ·rename_i d hi
   exact⟨_,h,efq hd fun h T ha=>q_ext ho (ha.ev mx hx) (nth_map h hi)⟩
  ·cases h
 ·cases h
end
end
end Go.Ab
namespace Go.Ab
open Go Go.RowKit
set_option linter.all false
set_option maxHeartbeats 1000000
noncomputable section
section
variable {R:Type}{X:Ctx}{Z:ISeat}{nt:Nat}{S:IS}{o:Oper}{r:R}{k:Ef→Option R}{t:Nat}
def rowOf (Z:ISeat) (ty:Nat) (k:TRow→Option R):Option R:=match nth Z.tab ty with
 |some q=>bif Nat.beq q.k 9 then none else k q
 |none=>none
theorem rowOf_ok {ty:Nat}{f:TRow→Option R} (h:rowOf Z ty f=some r):∃ q,nth Z.tab ty=some q∧Nat.beq q.k 9=false∧f q=some r:=by
 unfold rowOf at h
 split at h
 ·rename_i q hq
  cases hb:Nat.beq q.k 9 with
  |true=>rw[hb]at h;cases h
  |false=>rw[hb]at h;exact⟨q,hq,hb,h⟩
 ·cases h
def isAg (q:TRow):Bool:=Nat.beq q.k 1 || Nat.beq q.k 2
theorem q_fielda {T:St}{ty:TypeId}{x:Operand}{f off fsz:Nat}{l m:List D}{q:TRow} (ho:o.op=.field ty x f) (hx:T.ev X x=.agg l) (hr:nth X.Z.tab ty=some q) (hk:Nat.beq q.k 1=true)
  (hf:nth q.fl f=some (off,fsz,true)) (hm:takeN fsz (dropN off l)=some m):QOp X o T (.agg m):=fun κ sv a w hs=>by
 have hok:=X.Z.tabOk _ _ hr (by intro e;rw[e]at hk;cases hk)
 obtain ⟨i,dd,hi,hdd,_,_,_,h4⟩:=row_info hok
 have hk1:=Nat.eq_of_beq_eq_true hk
 cases dd<;>try (simp only at h4;omega)
 rename_i fs
 obtain ⟨_,hfl,hall⟩:=h4
 rw[nth_eq,← hfl,List.getElem?_map]at hf
 obtain ⟨rfl,hlen⟩:=takeN_eq hm
 rw[dropN_eq]at hlen ⊢
 obtain ⟨vs,he,hl⟩:=ev_agg hs hx
 refine ⟨.agg ((vs.drop off).take fsz).toArray,.agg _ _ ((hl.drop _).take _),fun w' _=>?_⟩
 cases hff:fs.toList[f]? with
 |none=>rw[hff]at hf;cases hf
 |some fld =>
  rw[hff]at hf
  simp only[Option.map_some,Option.some.injEq,Prod.mk.injEq]at hf
  obtain ⟨h1,h2,h3⟩:=hf
  have hsome:=List.all_eq_true.1 hall fld (List.mem_of_getElem? hff)
  rw[Bool.and_eq_true]at hsome
  obtain ⟨d2,hu2⟩:=Option.isSome_iff_exists.1 hsome.2
  obtain ⟨i2,hi2⟩:=Option.isSome_iff_exists.1 hsome.1
  have hff':fs[f]?=some fld:=by simpa using hff
  have hagg:(isAgg fld.type).run X.Z.P w'=.ok true w':=by rw[run_isAgg hu2,h3]
  have hsz:i2.size=fsz:=by rw[← cellsOf_eq hi2,h2]
  have hext:vs.toArray.extract off (off+fsz)=((vs.drop off).take fsz).toArray:=by simp[List.extract_eq_drop_take]
  simp[execOp,ho,he,Instr.field,run_underlying hdd,hff',asAgg,part,hagg,h1,run_sizeOf hi2,hsz,hext]
def opFd (Z:ISeat) (t ty f:Nat) (k:Ef→Option R):I→Option R
 |.agg l=>rowOf Z ty fun q=>chk (Nat.beq q.k 1) (match nth q.fl f with
  |some (off,fsz,true)=>(match takeP fsz (dropP off l) with|some m=>k (vE t (.agg m))|none=>none)
  |some (off,_,false)=>(match nth l off with|some d=>k (vE t d)|none=>none)
  |none=>none)
 |_=>none
theorem opFd_ok (hX:At X Z nt) {ty f:Nat}{x:Operand} (ho:o.op=.field ty x f) (hd:o.dst=some t) (h:opFd Z t ty f k (S.ev Z nt x)=some r):∃ e,k e=some r∧EfOk X Z nt o S e:=by
 have mx:x∈o.op.operands.toList:=by rw[ho];simp[Op.operands]
 unfold opFd at h
 split at h
 ·rename_i l hx
  obtain ⟨q,hq,h9,h⟩:=rowOf_ok h
  obtain ⟨hk,h⟩:=chk_some h
  split at h
  ·rename_i off fsz hf
   split at h
   ·rename_i m hm
    exact⟨_,h,efq hd fun h T ha=>q_fielda ho (ha.ev mx hx) (by rw[hX.Z];exact hq) hk hf (by rw[drop_map];exact take_map h hm)⟩
   ·cases h
  ·rename_i off fsz hf
   split at h
   ·rename_i d hm
    exact⟨_,h,efq hd fun h T ha=>q_field ho (ha.ev mx hx) (by rw[hX.Z];exact hq) hk hf rfl (nth_map h hm)⟩
   ·cases h
  ·cases h
 ·cases h
def partsI (Z:ISeat) (nt:Nat) (S:IS):List (Nat×Operand)→List (Nat×List I)
 |[]=>[]
 |(i,x)::l=>(i,(S.ev Z nt x).cells)::partsI Z nt S l
def partsB (Z:ISeat) (nt:Nat) (S:IS):List (Nat×Operand)→Bool
 |[]=>true
 |(_,x)::l=>allC (S.ev Z nt x).cells&&partsB Z nt S l
theorem parts_map {h:Nat→Nat}{T:St} (ha:Ag X Z nt S h T o):∀ {l:List (Nat×Operand)},(∀ p∈l,p.2∈o.op.operands.toList) →
  partsD X T l=(partsI Z nt S l).map (fun p=>(p.1,I.toDL h p.2))∧partsOk X T l=partsB Z nt S l
 |[],_=>⟨rfl,rfl⟩
 |(i,x)::l,hm=>by
  obtain ⟨h1,h2⟩:=parts_map ha (l:=l) fun p hp=>hm p (List.mem_cons_of_mem _ hp)
  have h3:=ha.ev (hm (i,x) (List.mem_cons_self ..)) rfl
  simp only at h3
  simp only[partsD,partsI,partsOk,partsB,List.map_cons,h1,h2,h3,cells_toD,allC_toDL,and_self]
def opBd (Z:ISeat) (nt:Nat) (S:IS) (t ty:Nat) (ps:Array (Nat×Operand)) (k:Ef→Option R):Option R:=rowOf Z ty fun q=>chk (partsB Z nt S ps.toList)
 (bif Nat.beq q.k 1 then (match bldP (plF q.fl) (q.zs.map zI) (partsI Z nt S ps.toList) with | some l => k (vE t (.agg l)) | none => none)
  else chk (Nat.beq q.k 2) (rowOf Z q.el fun q2=>match bldP (fun i=>some (i * q2.sz,q2.sz)) (q.zs.map zI) (partsI Z nt S ps.toList) with|some l=>k (vE t (.agg l))|none=>none))
theorem opBd_ok (hX:At X Z nt) {ty:Nat}{ps:Array (Nat×Operand)} (ho:o.op=.build ty ps) (hd:o.dst=some t) (h:opBd Z nt S t ty ps k=some r):∃ e,k e=some r∧EfOk X Z nt o S e:=by
 have hm:∀ p∈ps.toList,p.2∈o.op.operands.toList:=fun p hp=>by rw[ho];simp only[Op.operands];exact List.mem_map.2 ⟨p,hp,rfl⟩
 unfold opBd at h
 obtain ⟨q,hq,h9,h⟩:=rowOf_ok h
 obtain ⟨hp,h⟩:=chk_some h
 cases hk:Nat.beq q.k 1 with
 |true =>
  rw[hk]at h
  simp only[cond_true]at h
  split at h
  ·rename_i l hl
   refine ⟨_,h,efq hd fun h T ha=>?_⟩
   obtain ⟨h1,h2⟩:=parts_map ha hm
   exact q_bld ho (by rw[hX.Z];exact hq) hk (h2.trans hp) (by rw[h1,← zI_toDL h];exact bld_map h _ hl)
  ·cases h
 |false =>
  rw[hk]at h
  simp only[cond_false]at h
  obtain ⟨hk2,h⟩:=chk_some h
  obtain ⟨q2,hq2,h92,h⟩:=rowOf_ok h
  split at h
  ·rename_i l hl
   refine ⟨_,h,efq hd fun h T ha=>?_⟩
   obtain ⟨h1,h2⟩:=parts_map ha hm
   exact q_blda ho (by rw[hX.Z];exact hq) hk2 rfl (by rw[hX.Z];exact hq2) h92 (h2.trans hp) (by rw[h1,← zI_toDL h];exact bld_map h _ hl)
  ·cases h
def ldC (q:TRow) (t:Nat) (l:List I) (j:Nat) (k:Ef→Option R):Option R :=
 bif isAg q then (match takeP q.sz (dropP j l) with|some m=>k (vE t (.agg m))|none=>none) else (match nth l j with|some d=>k (vE t d)|none=>none)
theorem ldC_ok {q:TRow}{l:List I}{j:Nat} (h:ldC q t l j k=some r):(isAg q=true∧∃ m,takeP q.sz (dropP j l)=some m∧k (vE t (.agg m))=some r)∨(isAg q=false∧∃ d,nth l j=some d∧k (vE t d)=some r):=by
 unfold ldC at h
 cases ha:isAg q with
 |true =>
  rw[ha]at h
  simp only[cond_true]at h
  split at h
  ·exact .inl ⟨rfl,_,by assumption,h⟩
  ·cases h
 |false =>
  rw[ha]at h
  simp only[cond_false]at h
  split at h
  ·exact .inr ⟨rfl,_,by assumption,h⟩
  ·cases h
def rowI (ty:T) (l:List (den ty)) (i:Nat):List I:=encC ty (l.getD i (dflt ty))
def opLd (Z:ISeat) (S:IS) (t ty:Nat) (k:Ef→Option R):I→Option R
 |.rp l j=>bif Z.isF ty then (match nth l j with|some d=>k (vE t d)|none=>none) else rowOf Z ty fun q=>ldC q t l j k
 |.bx s g j=>bif Z.isF ty then (bif Nat.beq g (S.gen s) then (match S.own s with|.box l=>(match nth l j with|some d=>k (vE t d)|none=>none)|_=>none) else none) else rowOf Z ty fun q=>bif Nat.beq g (S.gen s) then (match S.own s with|.box l=>ldC q t l j k|_=>none) else none
 |.op s g z i j=>rowOf Z ty fun q=>bif Nat.beq g (S.gen s) then (match S.own s with|.arr _ e l=>chk (Nat.beq z (sz e)) (chk (decide (i<l.length)) (ldC q t (rowI e l i) j k))|_=>none) else none
 |_=>none
theorem pl_bx {x:Operand}{s g j:Nat} (hx:S.ev Z nt x=.bx s g j):s∈plI (S.ev Z nt x):=by rw[hx];simp[plI]
theorem pl_os {x:Operand}{s g:Nat} (hx:S.ev Z nt x=.os s g):s∈plI (S.ev Z nt x):=by rw[hx];simp[plI]
theorem pl_op {x:Operand}{s g z i j:Nat} (hx:S.ev Z nt x=.op s g z i j):s∈plI (S.ev Z nt x):=by rw[hx];simp[plI]
theorem opLd_ok (hX:At X Z nt) {ty:Nat}{x:Operand} (ho:o.op=.load ty x) (hd:o.dst=some t) (h:opLd Z S t ty k (S.ev Z nt x)=some r):∃ e,k e=some r∧EfOk X Z nt o S e:=by
 have mx:x∈o.op.operands.toList:=by rw[ho];simp[Op.operands]
 have hl2:lvl o=2:=by simp[lvl,ho]
 have hl1:lvl o≠0:=by rw[hl2];simp
 unfold opLd at h
 split at h
 ·rename_i l j hx
  cases hF:Z.isF ty with
  |true =>
   rw[hF]at h
   simp only[cond_true]at h
   obtain ⟨td,hu,ha0⟩:=Z.isF_ok _ hF
   split at h
   ·rename_i d hm
    exact⟨_,h,efq hd fun h T ha=>q_ldrf ho (ha.ev mx hx) (by rw[hX.Z];exact hu) (by rw[hX.Z];exact ha0) (nth_map h hm)⟩
   ·cases h
  |false =>
  rw[hF]at h
  simp only[cond_false]at h
  obtain ⟨q,hq,h9,h⟩:=rowOf_ok h
  rcases ldC_ok h with ⟨hk,m,hm,h⟩|⟨hk,d,hm,h⟩
  ·exact⟨_,h,efq hd fun h T ha=>q_ldra ho (ha.ev mx hx) (by rw[hX.Z];exact hq) hk h9 (by rw[drop_map];exact take_map h hm)⟩
  ·exact⟨_,h,efq hd fun h T ha=>q_ldr ho (ha.ev mx hx) (by rw[hX.Z];exact hq) hk h9 (nth_map h hm)⟩
 ·rename_i s g j hx
  cases hF:Z.isF ty with
  |true =>
   rw[hF]at h
   simp only[cond_true]at h
   obtain ⟨td,hu,ha0⟩:=Z.isF_ok _ hF
   cases hg:Nat.beq g (S.gen s) with
   |false=>rw[hg]at h;cases h
   |true =>
   have hg:=Nat.eq_of_beq_eq_true hg
   subst hg
   simp only[Nat.beq_refl,cond_true]at h
   split at h
   ·rename_i l hσ
    have hp:=pl_bx hx
    split at h
    ·rename_i d hm
     exact⟨_,h,efq hd fun h T ha=>q_ldbf ho (ha.ev mx hx) (by rw[hX.Z];exact hu) (by rw[hX.Z];exact ha0) (ha.γ hl1 mx hp) ((ha.σ hl2 mx hp).trans (by rw[hσ];rfl)) (nth_map h hm)⟩
    ·cases h
   ·cases h
  |false =>
  rw[hF]at h
  simp only[cond_false]at h
  obtain ⟨q,hq,h9,h⟩:=rowOf_ok h
  cases hg:Nat.beq g (S.gen s) with
  |false=>rw[hg]at h;cases h
  |true =>
  have hg:=Nat.eq_of_beq_eq_true hg
  subst hg
  simp only[Nat.beq_refl,cond_true]at h
  split at h
  ·rename_i l hσ
   have hp:=pl_bx hx
   rcases ldC_ok h with ⟨hk,m,hm,h⟩|⟨hk,d,hm,h⟩
   ·exact⟨_,h,efq hd fun h T ha=>q_ldba ho (ha.ev mx hx) (by rw[hX.Z];exact hq) hk h9 (ha.γ hl1 mx hp) ((ha.σ hl2 mx hp).trans (by rw[hσ];rfl)) (by rw[drop_map];exact take_map h hm)⟩
   ·exact⟨_,h,efq hd fun h T ha=>q_ldb ho (ha.ev mx hx) (by rw[hX.Z];exact hq) hk h9 (ha.γ hl1 mx hp) ((ha.σ hl2 mx hp).trans (by rw[hσ];rfl)) (nth_map h hm)⟩
  ·cases h
 ·rename_i s g z i j hx
  obtain ⟨q,hq,h9,h⟩:=rowOf_ok h
  cases hg:Nat.beq g (S.gen s) with
  |false=>rw[hg]at h;cases h
  |true =>
  have hg:=Nat.eq_of_beq_eq_true hg
  subst hg
  simp only[Nat.beq_refl,cond_true]at h
  split at h
  ·rename_i E e l hσ
   obtain ⟨hz0,h2⟩:=chk_some h
   obtain ⟨hi0,h3⟩:=chk_some h2
   clear h h2
   have hz:=Nat.eq_of_beq_eq_true hz0
   clear hz0
   subst hz
   have hi:=of_decide_eq_true hi0
   have h:=h3
   clear h3
   have hp:=pl_op hx
   have er:∀ h:Nat→Nat,encD e (l.getD i (dflt e))=I.toDL h (rowI e l i):=fun h=>(toDL_enc h e _).symm
   have hσT:∀ h T,Ag X Z nt S h T o→T.σ s=.arr E (sz e) l.length (fun i=>encD e (l.getD i (dflt e))):=fun h T ha=>(ha.σ hl2 mx hp).trans (by rw[hσ];rfl)
   rcases ldC_ok h with ⟨hk,m,hm,h⟩|⟨hk,d,hm,h⟩
   ·exact⟨_,h,efq hd fun h T ha=>q_ldoa ho (ha.ev mx hx) (by rw[hX.Z];exact hq) hk h9 (ha.γ hl1 mx hp) (hσT h T ha) hi (by rw[er h,drop_map];exact take_map h hm)⟩
   ·exact⟨_,h,efq hd fun h T ha=>q_ldo ho (ha.ev mx hx) (by rw[hX.Z];exact hq) hk h9 (ha.γ hl1 mx hp) (hσT h T ha) hi (by rw[er h];exact nth_map h hm)⟩
  ·cases h
 ·cases h
end
end
end Go.Ab
namespace Go.Ab
open Go Go.RowKit
set_option linter.all false
set_option maxHeartbeats 1000000
noncomputable section
section
variable {R:Type}{X:Ctx}{Z:ISeat}{nt:Nat}{S:IS}{o:Oper}{r:R}{k:Ef→Option R}{t:Nat}
def live (S:IS) (s g:Nat) (x:Option R):Option R:=bif Nat.beq g (S.gen s) then x else none
theorem live_ok {s g:Nat}{x:Option R} (h:live S s g x=some r):g=S.gen s∧x=some r:=by
 unfold live at h
 cases hg:Nat.beq g (S.gen s) with
 |false=>rw[hg]at h;cases h
 |true=>rw[hg]at h;exact⟨Nat.eq_of_beq_eq_true hg,h⟩
def opFa (Z:ISeat) (S:IS) (t ty f:Nat) (k:Ef→Option R) (d:I):Option R:=rowOf Z ty fun q=>chk (Nat.beq q.k 1) (match nth q.fl f with
 |some (off,fsz,_)=>bif Nat.beq fsz 0 then none else (match d with
  |.rp l j=>k (vE t (.rp l (j+off)))
  |.bx s g j=>live S s g (k (vE t (.bx s g (j+off))))
  |.op s g z i j=>live S s g (k (vE t (.op s g z i (j+off))))
  |_=>none)
 |none=>none)
theorem opFa_ok (hX:At X Z nt) {ty f:Nat}{x:Operand} (ho:o.op=.fieldAddr ty x f) (hd:o.dst=some t) (h:opFa Z S t ty f k (S.ev Z nt x)=some r):∃ e,k e=some r∧EfOk X Z nt o S e:=by
 have mx:x∈o.op.operands.toList:=by rw[ho];simp[Op.operands]
 have hl1:lvl o≠0:=by simp[lvl,ho]
 unfold opFa at h
 obtain ⟨q,hq,h9,h⟩:=rowOf_ok h
 obtain ⟨hk,h⟩:=chk_some h
 split at h
 ·rename_i off fsz ag hf
  cases hz:Nat.beq fsz 0 with
  |true=>rw[hz]at h;cases h
  |false =>
   rw[hz]at h
   simp only[cond_false]at h
   split at h
   ·rename_i l j hx
    exact⟨_,h,efq hd fun h T ha=>q_far ho (ha.ev mx hx) (by rw[hX.Z];exact hq) hk hf hz⟩
   ·rename_i s g j hx
    replace h:=live_ok h
    obtain ⟨rfl,h⟩:=h
    exact⟨_,h,efq hd fun h T ha=>q_fab ho (ha.ev mx hx) (ha.γ hl1 mx (pl_bx hx)) (by rw[hX.Z];exact hq) hk hf hz⟩
   ·rename_i s g z i j hx
    replace h:=live_ok h
    obtain ⟨rfl,h⟩:=h
    exact⟨_,h,efq hd fun h T ha=>q_fao ho (ha.ev mx hx) (ha.γ hl1 mx (pl_op hx)) (by rw[hX.Z];exact hq) hk hf hz⟩
   ·cases h
 ·cases h
def finIx (i:Int) (k:Nat→Option R):Nat→Nat→Option R
 |0,_=>none
 |n+1,a=>bif i == (a:Int) then k a else finIx i k n (a+1)
theorem finIx_ok {i:Int}{k:Nat→Option R}:∀ {n a:Nat},finIx i k n a=some r→∃ j:Nat,i=(j:Int)∧j<a+n∧k j=some r
 |0,a,h=>by cases h
 |n+1,a,h=>by
  unfold finIx at h
  cases hb:i == (a:Int) with
  |true=>rw[hb]at h;exact⟨a,by simpa using hb,by omega,h⟩
  |false =>
   rw[hb]at h
   obtain ⟨j,h1,h2,h3⟩:=finIx_ok h
   exact⟨j,h1,by omega,h3⟩
theorem q_iaop {T:St}{ty:TypeId}{x y:Operand}{r q:TRow}{s g z i j:Nat}{k:Int} (ho:o.op=.indexAddr ty x y) (hx:T.ev X x=.op s g z i j) (hg:T.γ s=g) (hy:T.ev X y=.int .i64 k) (h0:0≤k)
  (hr:nth X.Z.tab ty=some r) (hk:Nat.beq r.k 2=true) (h1:k<r.ln) (hq:nth X.Z.tab r.el=some q) (hq9:Nat.beq q.k 9=false):QOp X o T (.op s g z i (j+k.toNat * q.sz)):=fun κ sv a w hs=>by
 have hok:=X.Z.tabOk _ _ hr (by intro e;rw[e]at hk;cases hk)
 have hokq:=X.Z.tabOk _ _ hq (by intro e;rw[e]at hq9;cases hq9)
 have hyv:=rep_int (hy ▸ hs.ev y)
 obtain ⟨b,off,n,cap,e1,e2⟩:=live_op hs hx hg
 exact⟨.pointer (some ⟨b,off+(i * z+(j+k.toNat * q.sz)),none⟩),.op _ _ _ _ _ _ (by omega) (fun _=>⟨b,off,n,cap,e1,rfl⟩) rfl,fun w' _=>by
  simp[execOp,ho,e2,hyv,Instr.indexAt,asIntOf,run_underlying (array_row hok hk),Instr.sureAddr,h0,h1,run_size_row hokq,addr_add,Nat.add_assoc]⟩
def opIa (Z:ISeat) (S:IS) (t ty:Nat) (k:Ef→Option R) (d y:I):Option R:=rowOf Z ty fun q=>rowOf Z q.el fun q2=>match y with
 |.int .i64 i=>(match d with
  |.sl e l=>chk (Nat.beq q.k 3) (chk (Nat.beq q2.sz (sz e)) (chk (decide (0≤i)&&decide (i<l.length)) (k (vE t (.rp (rowI e l i.toNat) 0)))))
  |.os s g=>live S s g (match S.own s with
   |.arr _ e l=>chk (Nat.beq q.k 3) (chk (Nat.beq q2.sz (sz e)) (chk (decide (0≤i)&&decide (i<l.length)) (k (vE t (.op s g (sz e) i.toNat 0)))))
   |_=>none)
  |.bx s g j=>live S s g (chk (Nat.beq q.k 2) (finIx i (fun a=>k (vE t (.bx s g (j+a * q2.sz)))) q.ln 0))
  |.rp l j=>chk (Nat.beq q.k 2) (finIx i (fun a=>k (vE t (.rp l (j+a * q2.sz)))) q.ln 0)
  |.op s g z n j=>live S s g (chk (Nat.beq q.k 2) (finIx i (fun a=>k (vE t (.op s g z n (j+a * q2.sz)))) q.ln 0))
  |_=>none)
 |_=>none
theorem opIa_ok (hX:At X Z nt) {ty:Nat}{x y:Operand} (ho:o.op=.indexAddr ty x y) (hd:o.dst=some t) (h:opIa Z S t ty k (S.ev Z nt x) (S.ev Z nt y)=some r):∃ e,k e=some r∧EfOk X Z nt o S e:=by
 have mx:x∈o.op.operands.toList:=by rw[ho];simp[Op.operands]
 have my:y∈o.op.operands.toList:=by rw[ho];simp[Op.operands]
 have hl2:lvl o=2:=by simp[lvl,ho]
 have hl1:lvl o≠0:=by rw[hl2];simp
 unfold opIa at h
 obtain ⟨q,hq,h9,h⟩:=rowOf_ok h
 obtain ⟨q2,hq2,h92,h⟩:=rowOf_ok h
 have hq':nth X.Z.tab ty=some q:=by rw[hX.Z];exact hq
 have hq2':nth X.Z.tab q.el=some q2:=by rw[hX.Z];exact hq2
 split at h
 ·rename_i i hy
  split at h
  ·rename_i e l hx
   obtain ⟨h3,h⟩:=chk_some h
   obtain ⟨hz,h⟩:=chk_some h
   obtain ⟨hi,h⟩:=chk_some h
   simp only[Bool.and_eq_true,decide_eq_true_eq]at hi
   refine ⟨_,h,efq hd fun h T ha=>?_⟩
   have:=q_ia ho (ha.ev mx hx) (ha.ev my hy) hi.1 (by simpa using hi.2) hq' h3 hq2' h92 (Nat.eq_of_beq_eq_true hz)
   simp only[I.toD,rowI,toDL_enc]
   exact this
  ·rename_i s g hx
   replace h:=live_ok h
   obtain ⟨rfl,h⟩:=h
   split at h
   ·rename_i E e l hσ
    obtain ⟨h3,h⟩:=chk_some h
    obtain ⟨hz,h⟩:=chk_some h
    obtain ⟨hi,h⟩:=chk_some h
    simp only[Bool.and_eq_true,decide_eq_true_eq]at hi
    exact⟨_,h,efq hd fun h T ha=>q_iao ho (ha.ev mx hx) (ha.γ hl1 mx (pl_os hx)) ((ha.σ hl2 mx (pl_os hx)).trans (by rw[hσ];rfl)) (ha.ev my hy) hi.1 (by simpa using hi.2) hq' h3 hq2' h92 (Nat.eq_of_beq_eq_true hz)⟩
   ·cases h
  ·rename_i s g j hx
   replace h:=live_ok h
   obtain ⟨rfl,h⟩:=h
   obtain ⟨h2,h⟩:=chk_some h
   obtain ⟨a,rfl,ha,h⟩:=finIx_ok h
   exact⟨_,h,efq hd fun h T hT=>by
    have:=q_iab ho (hT.ev mx hx) (hT.γ hl1 mx (pl_bx hx)) (hT.ev my hy) (by omega) hq' h2 (by omega) hq2' h92
    simpa[I.toD] using this⟩
  ·rename_i l j hx
   obtain ⟨h2,h⟩:=chk_some h
   obtain ⟨a,rfl,ha,h⟩:=finIx_ok h
   exact⟨_,h,efq hd fun h T hT=>by
    have:=q_iar ho (hT.ev mx hx) (hT.ev my hy) (by omega) hq' h2 (by omega) hq2' h92
    simpa[I.toD] using this⟩
  ·rename_i s g z n j hx
   replace h:=live_ok h
   obtain ⟨rfl,h⟩:=h
   obtain ⟨h2,h⟩:=chk_some h
   obtain ⟨a,rfl,ha,h⟩:=finIx_ok h
   exact⟨_,h,efq hd fun h T hT=>by
    have:=q_iaop ho (hT.ev mx hx) (hT.γ hl1 mx (pl_op hx)) (hT.ev my hy) (by omega) hq' h2 (by omega) hq2' h92
    simpa[I.toD] using this⟩
  ·cases h
 ·cases h
theorem q_idxc {T:St}{ty:TypeId}{x y:Operand}{q q2:TRow}{l:List D}{d:D}{a:Int} (ho:o.op=.index ty x y) (hx:T.ev X x=.agg l) (hy:T.ev X y=.int .i64 a) (h0:0≤a)
  (hr:nth X.Z.tab ty=some q) (hk:Nat.beq q.k 2=true) (h1:a<q.ln) (hq:nth X.Z.tab q.el=some q2) (h9:Nat.beq q2.k 9=false) (hqk:(Nat.beq q2.k 1 || Nat.beq q2.k 2)=false) (hm:nth l (a.toNat * q2.sz)=some d):QOp X o T d:=fun κ sv ac w hs=>by
 have hok:=X.Z.tabOk _ _ hr (by intro e;rw[e]at hk;cases hk)
 have hokq:=X.Z.tabOk _ _ hq (by intro e;rw[e]at h9;cases h9)
 have hyv:=rep_int (hy ▸ hs.ev y)
 obtain ⟨vs,e1,hl⟩:=ev_agg hs hx
 obtain ⟨iq,dq,hiq,hdq,hsq,_⟩:=row_info hokq
 rw[nth_eq]at hm
 obtain ⟨v,hv,hrep⟩:=hl.get hm
 refine ⟨v,hrep,fun w' _=>?_⟩
 have hagg:(isAgg q.el).run X.Z.P w'=.ok false w':=by rw[run_isAgg hdq,aggOf_k hokq,hqk]
 simp[execOp,ho,e1,hyv,Instr.index,asIntOf,run_underlying (array_row hok hk),h0,h1,run_size_row hokq,part,hagg,hv]
def byteAt (s:ByteArray) (i:Nat) (k:Int→Option R):Option R:=match s[i]? with
 |some b=>k b.toNat
 |none=>none
theorem byteAt_ok {s:ByteArray}{i:Nat}{k:Int→Option R} (h:byteAt s i k=some r):∃ b:UInt8,s[i]?=some b∧k b.toNat=some r:=by
 unfold byteAt at h
 split at h
 ·exact⟨_,by assumption,h⟩
 ·cases h
def opIx (Z:ISeat) (t ty:Nat) (k:Ef→Option R) (d y:I):Option R:=match d,y with
 |.agg l,.int .i64 i=>rowOf Z ty fun q=>rowOf Z q.el fun q2=>chk (Nat.beq q.k 2) (finIx i (fun a=>ldC q2 t l (a * q2.sz) k) q.ln 0)
 |.str s,.int .i64 i=>chk (Z.isS ty) (chk (decide (0≤i)) (byteAt s i.toNat fun b=>k (vE t (.int .u8 b))))
 |_,_=>none
theorem opIx_ok (hX:At X Z nt) {ty:Nat}{x y:Operand} (ho:o.op=.index ty x y) (hd:o.dst=some t) (h:opIx Z t ty k (S.ev Z nt x) (S.ev Z nt y)=some r):∃ e,k e=some r∧EfOk X Z nt o S e:=by
 have mx:x∈o.op.operands.toList:=by rw[ho];simp[Op.operands]
 have my:y∈o.op.operands.toList:=by rw[ho];simp[Op.operands]
 unfold opIx at h
 split at h
 ·rename_i l i hx hy
  obtain ⟨q,hq,h9,h⟩:=rowOf_ok h
  obtain ⟨q2,hq2,h92,h⟩:=rowOf_ok h
  have hq':nth X.Z.tab ty=some q:=by rw[hX.Z];exact hq
  have hq2':nth X.Z.tab q.el=some q2:=by rw[hX.Z];exact hq2
  obtain ⟨h2,h⟩:=chk_some h
  obtain ⟨a,rfl,ha,h⟩:=finIx_ok h
  rcases ldC_ok h with ⟨hk,m,hm,h⟩|⟨hk,d,hm,h⟩
  ·exact⟨_,h,efq hd fun h T hT=>q_idx ho (hT.ev mx hx) (hT.ev my hy) (by omega) hq' h2 (by omega) hq2' hk (by rw[drop_map];simpa using take_map h hm)⟩
  ·exact⟨_,h,efq hd fun h T hT=>q_idxc ho (hT.ev mx hx) (hT.ev my hy) (by omega) hq' h2 (by omega) hq2' h92 hk (by simpa using nth_map h hm)⟩
 ·rename_i s i hx hy
  obtain ⟨h1,h⟩:=chk_some h
  obtain ⟨h2,h⟩:=chk_some h
  obtain ⟨b,hb,h⟩:=byteAt_ok h
  exact⟨_,h,efq hd fun h T hT=>q_idxS ho (hT.ev mx hx) (hT.ev my hy) (by rw[hX.Z];exact Z.isS_ok _ h1) (of_decide_eq_true h2) hb⟩
 ·cases h
def opNc (S:IS) (t:Nat) (k:Ef→Option R):I→Option R
 |.bx s g j=>live S s g (k (vE t (.bx s g j)))
 |.rp l j=>k (vE t (.rp l j))
 |.op s g z i j=>live S s g (k (vE t (.op s g z i j)))
 |_=>none
theorem opNc_ok {x:Operand} (ho:o.op=.nilCheck x) (hd:o.dst=some t) (h:opNc S t k (S.ev Z nt x)=some r):∃ e,k e=some r∧EfOk X Z nt o S e:=by
 have mx:x∈o.op.operands.toList:=by rw[ho];simp[Op.operands]
 have hl1:lvl o≠0:=by simp[lvl,ho]
 unfold opNc at h
 split at h
 ·rename_i s g j hx
  replace h:=live_ok h
  obtain ⟨rfl,h⟩:=h
  exact⟨_,h,efq hd fun h T ha=>q_nck ho (ha.ev mx hx) (ha.γ hl1 mx (pl_bx hx))⟩
 ·rename_i l j hx
  exact⟨_,h,efq hd fun h T ha=>q_nckr ho (ha.ev mx hx)⟩
 ·rename_i s g z i j hx
  replace h:=live_ok h
  obtain ⟨rfl,h⟩:=h
  exact⟨_,h,efq hd fun h T ha=>q_ncko ho (ha.ev mx hx) (ha.γ hl1 mx (pl_op hx))⟩
 ·cases h
def opLen (Z:ISeat) (S:IS) (t:Nat) (ts:Array TypeId) (k:Ef→Option R) (d:I):Option R:=match ts[0]? with
 |some ty=>bif Z.isS ty then (match d with|.str b=>k (vE t (.int .i64 b.size))|_=>none) else rowOf Z ty fun q=>chk (Nat.beq q.k 3) (match d with
  |.sl _ l=>k (vE t (.int .i64 l.length))
  |.nil=>k (vE t (.int .i64 0))
  |.os s g=>live S s g (match S.own s with
   |.arr _ _ l=>k (vE t (.int .i64 l.length))
   |_=>none)
  |_=>none)
 |none=>none
theorem opLen_ok (hX:At X Z nt) {x:Operand}{ts:Array TypeId} (ho:o.op=.call { callee:=.builtin .len,args:=#[x],argTypes:=ts }) (hd:o.dst=some t) (h:opLen Z S t ts k (S.ev Z nt x)=some r):∃ e,k e=some r∧EfOk X Z nt o S e:=by
 have mx:x∈o.op.operands.toList:=by rw[ho];simp[Op.operands,Call.operands]
 have hl2:lvl o=2:=by simp[lvl,ho]
 have hl1:lvl o≠0:=by rw[hl2];simp
 unfold opLen at h
 split at h
 ·rename_i ty hT
  cases hS:Z.isS ty with
  |true =>
   rw[hS]at h
   simp only[cond_true]at h
   split at h
   ·rename_i b hx
    exact⟨_,h,efq hd fun h T ha=>q_lenS ho hT (ha.ev mx hx) (by rw[hX.Z];exact Z.isS_ok _ hS)⟩
   ·cases h
  |false =>
  rw[hS]at h
  simp only[cond_false]at h
  obtain ⟨q,hq,h9,h⟩:=rowOf_ok h
  obtain ⟨h3,h⟩:=chk_some h
  have hq':nth X.Z.tab ty=some q:=by rw[hX.Z];exact hq
  split at h
  ·rename_i e l hx
   exact⟨_,h,efq hd fun h T ha=>q_len ho hT (ha.ev mx hx) hq' h3⟩
  ·rename_i hx
   exact⟨_,h,efq hd fun h T ha=>q_len0 ho hT (ha.ev mx hx) hq' h3⟩
  ·rename_i s g hx
   replace h:=live_ok h
   obtain ⟨rfl,h⟩:=h
   split at h
   ·rename_i E e l hσ
    exact⟨_,h,efq hd fun h T ha=>q_leno ho hT (ha.ev mx hx) (ha.γ hl1 mx (pl_os hx)) ((ha.σ hl2 mx (pl_os hx)).trans (by rw[hσ];rfl)) hq' h3⟩
   ·cases h
  ·cases h
 ·cases h
def opMm (t:Nat) (mx:Bool) (k:Ef→Option R):I→I→Option R
 |.int .i64 a,.int .i64 b=>bif mx then k (vE t (.int .i64 (max a b))) else k (vE t (.int .i64 (min a b)))
 |_,_=>none
theorem opMin_ok {x y:Operand}{ts:Array TypeId} (ho:o.op=.call { callee:=.builtin .min,args:=#[x,y],argTypes:=ts }) (hd:o.dst=some t) (h:opMm t false k (S.ev Z nt x) (S.ev Z nt y)=some r):∃ e,k e=some r∧EfOk X Z nt o S e:=by
 have mx:x∈o.op.operands.toList:=by rw[ho];simp[Op.operands,Call.operands]
 have my:y∈o.op.operands.toList:=by rw[ho];simp[Op.operands,Call.operands]
 unfold opMm at h
 split at h
 ·rename_i a b hx hy
  exact⟨_,h,efq hd fun h T ha=>q_min ho (ha.ev mx hx) (ha.ev my hy)⟩
 ·cases h
theorem opMax_ok {x y:Operand}{ts:Array TypeId} (ho:o.op=.call { callee:=.builtin .max,args:=#[x,y],argTypes:=ts }) (hd:o.dst=some t) (h:opMm t true k (S.ev Z nt x) (S.ev Z nt y)=some r):∃ e,k e=some r∧EfOk X Z nt o S e:=by
 have mx:x∈o.op.operands.toList:=by rw[ho];simp[Op.operands,Call.operands]
 have my:y∈o.op.operands.toList:=by rw[ho];simp[Op.operands,Call.operands]
 unfold opMm at h
 split at h
 ·rename_i a b hx hy
  exact⟨_,h,efq hd fun h T ha=>q_max ho (ha.ev mx hx) (ha.ev my hy)⟩
 ·cases h
theorem evs_map {h:Nat→Nat}{T:St} (ha:Ag X Z nt S h T o) {l:List Operand} (hm:∀ x∈l,x∈o.op.operands.toList):l.map (T.ev X)=I.toDL h (l.map (S.ev Z nt)):=by
 rw[toDL_map,List.map_map]
 exact List.map_congr_left fun x hx=>ha.ev (hm x hx) rfl
def opMf (Z:ISeat) (nt:Nat) (S:IS) (t:Nat) (fn:Fn) (first cap:Array Operand) (k:Ef→Option R):Option R:=match fn with
 |.func f=>bif Nat.beq first.toList.length 0 then k (vE t (.fn f (cap.toList.map (S.ev Z nt)))) else chk (Nat.beq cap.toList.length 0) (k (vE t (.mf f (first.toList.map (S.ev Z nt)))))
 |_=>none
theorem arr_nil {α:Type}{a:Array α} (h:Nat.beq a.toList.length 0=true):a=#[]:=by
 have:=Nat.eq_of_beq_eq_true h
 apply Array.eq_empty_of_size_eq_zero;simpa using this
theorem opMf_ok {fn:Fn}{first cap:Array Operand} (ho:o.op=.makeFunc fn first cap) (hd:o.dst=some t) (h:opMf Z nt S t fn first cap k=some r):∃ e,k e=some r∧EfOk X Z nt o S e:=by
 unfold opMf at h
 split at h
 ·rename_i f
  cases hb:Nat.beq first.toList.length 0 with
  |true =>
   rw[hb]at h
   have e:=arr_nil hb
   subst e
   refine ⟨_,h,efq hd fun h T ha=>?_⟩
   have:=q_fn (X:=X) (S:=T) ho
   rw[evs_map ha (fun x hx=>by rw[ho];simpa[Op.operands] using hx)]at this
   exact this
  |false =>
   rw[hb]at h
   obtain ⟨hb,h⟩:=chk_some h
   have e:=arr_nil hb
   subst e
   refine ⟨_,h,efq hd fun h T ha=>?_⟩
   have:=q_mf (X:=X) (S:=T) ho
   rw[evs_map ha (fun x hx=>by rw[ho];simpa[Op.operands] using hx)]at this
   exact this
 ·cases h
def boxE (S:IS) (s:Nat) (l:List I):Ef:=⟨some s,.bx s (S.gen s+1) 0,some (s,S.gen s+1),some (s,.box l)⟩
theorem boxed_eff {h:Nat→Nat}{T:St}{s:Nat}{l:List I} (hγ:T.γ s=h s+S.gen s):T.boxed s (I.toDL h l)=T.app (boxE S s l).wr ((boxE S s l).vl h):=by
 unfold St.boxed St.app boxE Ef.wr Ef.vl
 rw[hγ];rfl
def opBx (S:IS) (t:Nat) (k:Ef→Option R) (d:I):Option R:=chk (allC d.cells&&mbOk (mbI d.cells) none) (k (boxE S t d.cells))
theorem opBx_ok {ty:Nat}{x:Operand} (ho:o.op=.box ty x) (hd:o.dst=some t) (h:opBx S t k (S.ev Z nt x)=some r):∃ e,k e=some r∧EfOk X Z nt o S e:=by
 have mx:x∈o.op.operands.toList:=by rw[ho];simp[Op.operands]
 unfold opBx at h
 obtain ⟨hc,h⟩:=chk_some h
 refine ⟨_,h,fun h T ha hg=>?_⟩
 rw[← boxed_eff (hg _ rfl),← cells_toD]
 simp only[Bool.and_eq_true]at hc
 exact opOk_n (n_box ho hd (ha.ev mx rfl) (by rw[cells_toD,allC_toDL];exact hc.1) (by rw[cells_toD,mbI_toD];have:=mbOk_ok hc.2;cases hm:mbI (S.ev Z nt x).cells with|none=>rfl|some T0=>exact absurd (this T0 hm) (by simp)))
def opAl (Z:ISeat) (S:IS) (t ty:Nat) (k:Ef→Option R):Option R:=rowOf Z ty fun q=>k (boxE S t (q.zs.map zI))
theorem opAl_ok (hX:At X Z nt) {ty:Nat} (ho:o.op=.alloc ty) (hd:o.dst=some t) (h:opAl Z S t ty k=some r):∃ e,k e=some r∧EfOk X Z nt o S e:=by
 unfold opAl at h
 obtain ⟨q,hq,h9,h⟩:=rowOf_ok h
 refine ⟨_,h,fun h T ha hg=>?_⟩
 rw[← boxed_eff (hg _ rfl),zI_toDL]
 exact opOk_n (n_alloc ho hd (by rw[hX.Z];exact hq) h9)
theorem nilIL_rel (h:Nat→Nat):∀ {l m:List I},NilIL l m→NilL (I.toDL h l) (I.toDL h m)
 |_,_,.nil=>trivial
 |_,_,.cons (.same d) h2=>⟨.inl rfl,nilIL_rel h h2⟩
 |_,_,.cons (.nsl t l) h2=>⟨(by cases l with|nil=>exact .inr ⟨rfl,sz t,fun i=>encD t (([]:List (den t)).getD i (dflt t)),rfl⟩|cons=>exact .inl rfl),nilIL_rel h h2⟩
 |_,_,.cons (.nil t) h2=>⟨.inr ⟨rfl,sz t,fun i=>encD t (([]:List (den t)).getD i (dflt t)),rfl⟩,nilIL_rel h h2⟩
def stE (s:Nat) (ow:IOwn):Ef:=⟨none,.undef,none,some (s,ow)⟩
def opSt (Z:ISeat) (S:IS) (ty:Nat) (k:Ef→Option R) (p d:I):Option R:=rowOf Z ty fun q=>chk (allC d.cells) (chk (Nat.beq d.cells.length q.sz) (match p with
 |.bx s g j=>live S s g (match S.own s with
  |.box l=>(match overP l j d.cells with|some l'=>chk (mbOk (mbI l') (mbI l)) (k (stE s (.box l')))|none=>none)
  |_=>none)
 |.op s g z i j=>live S s g (match S.own s with
  |.arr E e l=>chk (Nat.beq z (sz e)) (chk (decide (i<l.length)) (match overP (rowI e l i) j d.cells with
   |some l'=>(match decC e l' with|some x=>k (stE s (.arr E e (l.set i x)))|none=>k (stE s (.arrp E e l i l')))
   |none=>none))
  |_=>none)
 |_=>none))
theorem opSt_ok (hX:At X Z nt) {ty:Nat}{x y:Operand} (ho:o.op=.store ty x y) (hd:o.dst=none) (h:opSt Z S ty k (S.ev Z nt x) (S.ev Z nt y)=some r):∃ e,k e=some r∧EfOk X Z nt o S e:=by
 have mx:x∈o.op.operands.toList:=by rw[ho];simp[Op.operands]
 have my:y∈o.op.operands.toList:=by rw[ho];simp[Op.operands]
 have hl2:lvl o=2:=by simp[lvl,ho]
 have hl1:lvl o≠0:=by rw[hl2];simp
 unfold opSt at h
 obtain ⟨q,hq,h9,h⟩:=rowOf_ok h
 obtain ⟨hc,h⟩:=chk_some h
 obtain ⟨hsz,h⟩:=chk_some h
 have hq':nth X.Z.tab ty=some q:=by rw[hX.Z];exact hq
 have hsz:=Nat.eq_of_beq_eq_true hsz
 have hc':∀ h:Nat→Nat,allCell ((S.ev Z nt y).toD h).cells=true:=fun h=>by rw[cells_toD,allC_toDL];exact hc
 have hn':∀ h:Nat→Nat,((S.ev Z nt y).toD h).cells.length=q.sz:=fun h=>by rw[cells_toD,toDL_len];exact hsz
 split at h
 ·rename_i s g j hx
  replace h:=live_ok h
  obtain ⟨rfl,h⟩:=h
  split at h
  ·rename_i l hσ
   split at h
   ·rename_i l' hl
    obtain ⟨hm,h⟩:=chk_some h
    refine ⟨_,h,fun h T ha hg=>?_⟩
    have:=n_stb ho (ha.ev mx hx) (ha.γ hl1 mx (pl_bx hx)) ((ha.σ hl2 mx (pl_bx hx)).trans (by rw[hσ];rfl)) (ha.ev my rfl) (hc' h) hq' h9 (hn' h) (by rw[cells_toD];exact over_map h hl) (by rw[mbI_toD,mbI_toD];exact mbOk_ok hm) hd
    exact opOk_n this
   ·cases h
  ·cases h
 ·rename_i s g z i j hx
  replace h:=live_ok h
  obtain ⟨rfl,h⟩:=h
  split at h
  ·rename_i E e l hσ
   obtain ⟨hz0,h2⟩:=chk_some h
   obtain ⟨hi0,h3⟩:=chk_some h2
   clear h h2
   have hz:=Nat.eq_of_beq_eq_true hz0
   clear hz0
   subst hz
   have hi:=of_decide_eq_true hi0
   split at h3
   ·rename_i l' hl
    split at h3
    ·rename_i v hv
     refine ⟨_,h3,fun h T ha hg=>?_⟩
     have hσT:T.σ s=.arr E (sz e) l.length (fun i=>encD e (l.getD i (dflt e))):=(ha.σ hl2 mx (pl_op hx)).trans (by rw[hσ];rfl)
     have:=n_sto ho (ha.ev mx hx) (ha.γ hl1 mx (pl_op hx)) hσT hi (ha.ev my rfl) (hc' h) hq' h9 (hn' h) (k:=I.toDL h l') (by rw[cells_toD,← toDL_enc h];exact over_map h hl) hd
     refine OpOk.wk (opOk_n this) ?_
     have hw:=wk_arrN (X:=X) (S:=⟨T.ρ,T.γ,upd T.σ s (.arr E (sz e) l.length (updF (fun i=>encD e (l.getD i (dflt e))) i (I.toDL h l')))⟩) s (E:=E) (z:=sz e) (n:=l.length) (f:=updF (fun i=>encD e (l.getD i (dflt e))) i (I.toDL h l')) (fun i'=>encD e ((l.set i v).getD i' (dflt e))) (upd_same _ _ _) (fun i' hi'=>by
      by_cases e1:i'=i
      ·subst e1
       rw[updF_same,List.getD_eq_getElem?_getD,List.getElem?_set_self hi,← toDL_enc h]
       exact nilIL_rel h (decC_ok e hv)
      ·rw[updF_ne _ _ e1]
       rw[List.getD_eq_getElem?_getD,List.getD_eq_getElem?_getD,List.getElem?_set_ne (fun h=>e1 h.symm)]
       exact nilL_refl _)
     have e2:(⟨T.ρ,T.γ,upd (upd T.σ s (.arr E (sz e) l.length (updF (fun i=>encD e (l.getD i (dflt e))) i (I.toDL h l')))) s (.arr E (sz e) l.length (fun i'=>encD e ((l.set i v).getD i' (dflt e))))⟩:St)=T.app (stE s (.arr E e (l.set i v))).wr ((stE s (.arr E e (l.set i v))).vl h):=by
      unfold St.app stE Ef.wr Ef.vl
      simp only[Option.map_some,Option.map_none,updO,IOwn.toOwn,List.length_set]
      congr 1
      funext j
      simp only[upd]
      cases Nat.beq j s<;>rfl
     rw[e2]at hw
     exact hw
    ·refine ⟨_,h3,fun h T ha hg=>?_⟩
     have hσT:T.σ s=.arr E (sz e) l.length (fun i=>encD e (l.getD i (dflt e))):=(ha.σ hl2 mx (pl_op hx)).trans (by rw[hσ];rfl)
     have:=n_sto ho (ha.ev mx hx) (ha.γ hl1 mx (pl_op hx)) hσT hi (ha.ev my rfl) (hc' h) hq' h9 (hn' h) (k:=I.toDL h l') (by rw[cells_toD,← toDL_enc h];exact over_map h hl) hd
     exact opOk_n this
   ·cases h3
  ·cases h
 ·cases h
end
end
end Go.Ab
namespace Go.Ab
open Go Go.RowKit
set_option linter.all false
theorem zc_len {zc:Array Value}{z m:Nat} (hz:zc.size=z):(Builtin.zeroCells zc m).toList.length=m * z:=by simp[Builtin.zeroCells,hz]
theorem zc_chunk {zc:Array Value}{z m i:Nat} (hz:zc.size=z) (hi:i<m):((Builtin.zeroCells zc m).toList.drop (i * z)).take z=zc.toList:=by
 have hiz:i * z+z≤m * z:=by have:=Nat.mul_le_mul_right z (show i+1≤m by omega);rw[Nat.add_mul]at this;omega
 apply List.ext_getElem?
 intro j
 simp only[List.getElem?_take,List.getElem?_drop]
 by_cases hj:j<z
 ·rw[if_pos hj]
  have h1:i * z+j<m * z:=by omega
  have h2:(i * z+j) % z=j:=by rw[Nat.mul_comm,Nat.mul_add_mod,Nat.mod_eq_of_lt hj]
  have h3:j<zc.size:=by omega
  simp[Builtin.zeroCells,hz,h1,h2]
  rw[getElem!_pos zc j h3,Array.getElem?_eq_getElem h3]
 ·rw[if_neg hj,List.getElem?_eq_none (by simp;omega)]
theorem spl_chunk {xs zl:List Value}{z n a m i:Nat} (hx:xs.length=n * z) (hl:zl.length=m * z) (ham:a+m≤n) (hi:i<n) :
  ((xs.take (a * z)++zl++xs.drop (a * z+m * z)).drop (i * z)).take z=if a≤i∧i<a+m then (zl.drop ((i - a) * z)).take z else (xs.drop (i * z)).take z:=by
 have e1:(a+m) * z≤n * z:=Nat.mul_le_mul_right z ham
 have e2:(i+1) * z≤n * z:=Nat.mul_le_mul_right z hi
 rw[Nat.add_mul]at e1 e2
 have hlt:(xs.take (a * z)).length=a * z:=by simp;omega
 apply List.ext_getElem?
 intro j
 by_cases hj:j<z
 ·split
  ·rename_i h
   have e3:(i - a) * z+a * z=i * z:=by rw[← Nat.add_mul];congr 1;omega
   have e4:(i - a+1) * z≤m * z:=Nat.mul_le_mul_right z (by omega)
   rw[Nat.add_mul]at e4
   simp only[List.getElem?_take,List.getElem?_drop,if_pos hj]
   rw[List.getElem?_append_left (by simp;omega),List.getElem?_append_right (by omega),hlt]
   congr 1;omega
  ·rename_i h
   simp only[List.getElem?_take,List.getElem?_drop,if_pos hj]
   by_cases h3:i<a
   ·have e3:(i+1) * z≤a * z:=Nat.mul_le_mul_right z h3
    rw[Nat.add_mul]at e3
    rw[List.getElem?_append_left (by simp;omega),List.getElem?_append_left (by simp;omega),List.getElem?_take,if_pos (by omega)]
   ·have e3:(a+m) * z≤i * z:=Nat.mul_le_mul_right z (by omega)
    rw[Nat.add_mul]at e3
    rw[List.getElem?_append_right (by simp;omega),List.length_append,hlt,hl,List.getElem?_drop]
    congr 1;omega
 ·split<;>simp only[List.getElem?_take,if_neg hj]
theorem run_clear_ownZ {P:Program}{w:World}{T ty E e:TypeId}{q:TRow}{zv:Value}{iq:TypeInfo} (hu:P.underlying T=some (.slice E)) (hiq:P.info? E=some iq) (hzv:iq.zero=some zv) {g off m c:Nat}{cur:Array Value}
  (hg:w.heap[g]?=some (.cells cur e (0,0))) (hm:0<m) (hfit:off+m * zv.cells.size≤cur.size) (h1:∀ v∈zv.cells.toList,v.oneCell'=true) :
  (Builtin.clear_ #[T] ty #[.slice (some ⟨g,off,none⟩) m c]).run P w=.ok (.tuple #[]) (w.setRow g (cur.toList.take off++(Builtin.zeroCells zv.cells m).toList++cur.toList.drop (off+m * zv.cells.size)).toArray):=by
 have hl:=zc_len (zc:=zv.cells) (m:=m) rfl
 have hst:=run_storeCells_at P g off e (Builtin.zeroCells zv.cells m).toList 0 cur w hg (by rw[hl];simpa using hfit) (fun v hv=>by
  simp only[Builtin.zeroCells,Array.toList_map,List.mem_map,Array.mem_toList_iff,Array.mem_range]at hv
  obtain ⟨i,hi,rfl⟩:=hv
  have hs:0<zv.cells.size:=Nat.pos_of_ne_zero fun e=>by rw[e]at hi;simp at hi
  have hlt:i % zv.cells.size<zv.cells.size:=Nat.mod_lt _ hs
  refine h1 _ ?_
  rw[getElem!_pos zv.cells _ hlt]
  simp)
 simp only[Nat.add_zero,hl]at hst
 cases m with
 |zero=>omega
 |succ m=>simp[Builtin.clear_,run_underlying hu,zeroValue,typeInfo,hiq,hzv,hst]
section
variable {X:Ctx}{o:Oper}{S:St}{T:TypeId}{r q:TRow}
theorem n_clearZ {x:Operand}{s g z a0 m n:Nat}{E:TypeId}{f f':Nat→List D}{ts:Array TypeId} (ho:o.op=.call { callee:=.builtin .clear,args:=#[x],argTypes:=ts }) (hts:ts=#[T]) (hd:o.dst=none)
  (hx:S.ev X x=.ow s g z a0 m) (hg:S.γ s=g) (hσ:S.σ s=.arr E z n f) (ham:a0+m≤n)
  (hr:nth X.Z.tab T=some r) (hk:Nat.beq r.k 3=true) (hE:r.el=E) (hq:nth X.Z.tab E=some q) (hq9:Nat.beq q.k 9=false) (hz:q.sz=z) (hzs:Nat.beq q.zs.length z=true)
  (h1:∀ i,i<n→a0≤i∧i<a0+m→f' i=q.zs.map Zr.toD) (h2:∀ i,i<n→¬(a0≤i∧i<a0+m)→f' i=f i) :
  NOp X o S ⟨S.ρ,S.γ,upd S.σ s (.arr E z n f')⟩:=fun κ sv a w hs=>by
 subst hts hE
 have hokr:=X.Z.tabOk _ _ hr (by intro e;rw[e]at hk;cases hk)
 have hokq:=X.Z.tabOk _ _ hq (by intro e;rw[e]at hq9;cases hq9)
 obtain ⟨iq,dq,hiq,hdq,hsq,hbq,⟨zv,hzv,hzf⟩,_⟩:=row_info hokq
 have hu:=slice_row hokr hk
 have hzl:zv.cells.size=z:=by have:=zr_len hzf;have h2:=Nat.eq_of_beq_eq_true hzs;simp at this;omega
 have hzr:RepL κ S.γ sv (q.zs.map Zr.toD) zv.cells.toList:=zr_rep hzf
 have hone:∀ v∈zv.cells.toList,v.oneCell'=true:=fun v hv=>RepL.oneCells hzr (zr_cell _) v hv
 have hown0:=hs.wld.own s
 rw[hσ]at hown0
 obtain ⟨xs,hown,hfl,hfc,hfr⟩:=hown0
 have hxv:=hs.ev x
 rw[hx]at hxv
 have hfin:∀ (w':World) (xs':List Value),(Builtin.clear_ #[T] o.type #[a.eval x]).run X.Z.P w=.ok (.tuple #[]) w'→w.grownBy w' (blk (S.σ s) (sv s))→ownsAt w' (X.base s) r.el z (sv s) n xs' →
   (∀ i,i<n→RepL κ S.γ sv (f' i) ((xs'.drop (i * z)).take z)) →
   ∃ v w' κ' sv',((execOp a.eval o).run X.Z.P w=.ok (.value v) w'∨((execOp a.eval o).run X.Z.P w=.ok .skip w'∧v=Go.undef))∧Sim X κ' sv' ⟨S.ρ,S.γ,upd S.σ s (.arr r.el z n f')⟩ (a.put o.dst v) w':=fun w' xs' hrun hgr ho' e4=>by
  have hlc:∀ i,i<n→(f' i).length=z∧allCell (f' i)=true:=fun i hi=>by
   by_cases h:a0≤i∧i<a0+m
   ·rw[h1 i hi h];exact⟨by simpa using Nat.eq_of_beq_eq_true hzs,zr_cell _⟩
   ·rw[h2 i hi h];exact⟨hfl i hi,hfc i hi⟩
  have hW:=hs.wld.rewrite s (.arr r.el z n f') hgr (by rw[hσ];exact blk_arr _) ⟨xs',ho',fun i hi=>(hlc i hi).1,fun i hi=>(hlc i hi).2,e4⟩ S.ρ
  have hS:Sim X κ sv ⟨S.ρ,S.γ,upd S.σ s (.arr r.el z n f')⟩ a w':=⟨hs.size,dfr_own hs s hgr,hs.slot,hW⟩
  rw[hd]
  refine ⟨.tuple #[],w',κ,sv,.inl ?_,hS⟩
  simp[execOp,ho,resolve,invoke,builtin,hrun]
 have hzero:m=0→∀ i,i<n→f' i=f i:=fun h0 i hi=>h2 i hi (by omega)
 obtain ⟨ad,N,cap,hsv,hv⟩:∃ ad N cap,sv s=.slice ad N cap∧a.eval x=.slice (if cap=a0 then ad else ad.map (·.add (a0 * z))) m (cap - a0):=by
  generalize a.eval x=v at hxv
  cases hxv with
  |ow _ _ _ _ _ _ _ hh _=>exact hh hg.symm
 by_cases hm0:m=0
 ·refine hfin w xs ?_ (below_grown (Below.refl _ _) _) hown (fun i hi=>by rw[hzero hm0 i hi];exact hfr i hi)
  rw[hv,hm0]
  cases (if cap=a0 then ad else ad.map (·.add (a0 * z)))<;>simp[Builtin.clear_,run_underlying hu]
 rcases hown.2 with ⟨hv0,hn0⟩|⟨g',off,cap',cur,hv0,hbase,hheap,hnc,hcm,hsz,htake⟩
 ·omega
 rw[hv0]at hsv
 simp only[Value.slice.injEq]at hsv
 obtain ⟨rfl,rfl,rfl⟩:=hsv
 rw[if_neg (by omega)]at hv
 simp only[Option.map_some,addr_add]at hv
 have e1:(a0+m) * z≤n * z:=Nat.mul_le_mul_right z ham
 have e2:n * z≤cap' * z:=Nat.mul_le_mul_right z hnc
 rw[Nat.add_mul]at e1
 have hrun:=run_clear_ownZ (w:=w) (T:=T) (ty:=o.type) (q:=q) (c:=cap' - a0) hu hiq hzv hheap (off:=off+a0 * z) (m:=m) (by omega) (by rw[hzl];omega) hone
 rw[← hv,hzl]at hrun
 have hxl:=hown.1
 have hcl:=zc_len (zc:=zv.cells) (m:=m) hzl
 generalize hzl2:(Builtin.zeroCells zv.cells m).toList=zl at hrun hcl
 refine hfin _ (xs.take (a0 * z)++zl++xs.drop (a0 * z+m * z)) hrun (by rw[hσ,hv0];exact grown_setRow _ _ _) ?_ (fun i hi=>?_)
 ·refine ⟨by simp;omega,.inr ⟨g',off,cap',_,hv0,hbase,setRow_heap w g' cur _ _ (0,0) hheap,hnc,hcm,?_,?_⟩⟩
  ·simp;omega
  ·have:=splice_off (cur:=cur.toList) (ds:=zl) (off:=off) (p:=a0 * z) (N:=n * z) (by omega) (by simp;omega)
   rw[hcl]at this
   rw[this,htake]
 ·rw[spl_chunk hxl hcl ham hi]
  split
  ·rename_i h
   rw[h1 i hi h,← hzl2,zc_chunk hzl (by omega)]
   exact hzr
  ·rename_i h;rw[h2 i hi h];exact hfr i hi
end
def Kf (d:D):Prop:=∀ {κ κ':Nat→Nat→Option Value}{γ γ':Nat→Nat}{sv sv':Nat→Value}{v:Value},Rep κ γ sv d v→Rep κ' γ' sv' d v
theorem kf_scal {d:D}{v0:Value} (h:scal1 d=some v0):Kf d:=fun hr=>rep_scal1 h hr
theorem kf_sl (z:Nat) (f:Nat→List D):Kf (.sl z 0 f):=fun hr=>by
 cases hr with
 |sl=>exact .slE _ _ _ _
 |sl0=>exact .sl0 _ _
 |slE=>exact .slE _ _ _ _
theorem kf_nil:Kf .nil:=fun hr=>by cases hr;exact .nil
section
variable {X:Ctx}{S:St}
theorem callO_lend2 {κ:Nat→Nat→Option Value}{sv:Nat→Value}{a:Act}{w:World} (hs:Sim X κ sv S a w) {f:FuncId}{L A:List D}{vs:List Value}{E z n:Nat}{el:Nat→List D}{s1 g1:Nat} (hc:ContractO X.Z f A (.os s1 g1) E z n el) (hr:RepL κ S.γ sv L vs) (hA:FzL S L A) (hel:∀ i,i<n→∀ d∈el i,Kf d) :
  Calls X.Z.P f vs.toArray w (PostO κ w (.os s1 g1) E z n el):=by
 let κ1:Nat→Nat→Option Value:=fun b o=>w.cell? ⟨b,o,none⟩
 have hle:Le κ κ1 S.γ S.γ sv sv:=⟨fun b o v hk=>hs.wld.imm b o v hk,fun _=>Nat.le_refl _,fun _ _=>rfl⟩
 have hr2:=hA.rep hs.wld hle (fun b o v h=>h) hr
 refine (hc.calls w κ1 _ (fun b o v h=>h) ⟨fun g l hg=>?_,(Sim.globOk hs.wld).2⟩ (hr2.pure (fun _ _ _ h=>h) hc.pureA)).mono ?_
 ·obtain ⟨h1,u,h2,h3⟩:=(Sim.globOk hs.wld).1 g l hg
  exact⟨h1,u,h2.mono ⟨fun b o v hk=>hs.wld.imm b o v hk,fun _=>Nat.le_refl _,fun _ _=>rfl⟩,fun j v hj=>hs.wld.imm _ _ _ (h3 j v hj)⟩
 ·rintro e w' ⟨v,sl,κ',rfl,hv,k1,k2,k3,hsl,hown,hsep,hb⟩
  have hlt:∀ b o u,κ b o=some u→b<w.heap.size:=fun b o u hk=>by simpa using World.block_lt_of_cell? w _ (hs.wld.imm b o u hk)
  refine ⟨v,sl,κ,rfl,?_,fun _ _ _ h=>h,fun _ _ _ _ h=>h,fun b o u hk=>(hb.cell (World.block_lt_of_cell? w _ (hs.wld.imm b o u hk))).trans (hs.wld.imm b o u hk),hsl,?_,fun b hbk o=>?_,hb⟩
  ·simp only[renO]at hv ⊢
   cases hv with
   |os _ _ _ h1 h2 h3=>exact .os _ _ _ h1 h2 h3
  ·obtain ⟨xs,e1,e2,e3,e4⟩:=hown
   refine ⟨xs,e1,e2,e3,fun i hi=>?_⟩
   have key:∀ {l:List D}{us:List Value},(∀ d∈l,Kf d)→RepL κ' (fun _=>1) (fun _=>sl) l us→RepL κ (fun _=>1) (fun _=>sl) l us:=by
    intro l
    induction l with
    |nil=>intro us _ h;cases h;exact .nil
    |cons d l ih =>
     intro us hd h
     cases h with
     |cons _ _ _ _ h1 h2 =>
      exact .cons _ _ _ _ (hd d (List.mem_cons_self ..) h1) (ih (fun x hx=>hd x (List.mem_cons_of_mem _ hx)) h2)
   exact key (hel i hi) (e4 i hi)
  ·cases hk:κ b o with
   |none=>rfl
   |some u =>
    have h1:=hlt b o u hk
    have h2:=owns_ge' hown b hbk
    omega
end
end Go.Ab
