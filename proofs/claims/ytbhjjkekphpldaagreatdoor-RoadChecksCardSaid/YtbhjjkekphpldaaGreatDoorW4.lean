/- Walks by computing: what each function of the program that the laws reach gives for what it gets, as plain Lean, and that it is so; without a condition but those that stand in each theorem. -/
import Derived.Laws.IdiomStrings
import Derived.Test.YtbhjjkekphpldaaGreatDoorW1
import Derived.Test.YtbhjjkekphpldaaGreatDoorW2
import Derived.Test.YtbhjjkekphpldaaGreatDoorW3
set_option linter.all false
namespace Go.Ab
open Go Go.RowKit
set_option linter.all false
noncomputable section
mutual
def vI:I→Value
 |.int k n=>.int k n
 |.bool b=>.bool b
 |.str s=>.string s
 |.agg l=>.agg (ZE l).toArray
 |.fn f l=>.func (.func f) #[] (ZE l).toArray
 |_=>Go.undef
def ZE:List I→List Value
 |[]=>[]
 |d::l=>vI d::ZE l
end
mutual
def K9:I→Bool
 |.int _ _=>true
 |.bool _=>true
 |.str _=>true
 |.agg l=>CL l
 |.fn _ l=>CL l
 |_=>false
def CL:List I→Bool
 |[]=>true
 |d::l=>K9 d&&CL l
end
inductive aK where
 |none
 |box (l:List I)
 |arr (E:TypeId) (t:T) (l:List (den t))
 |vp (E:TypeId) (t:T) (l:List (den t)) (i:Nat) (row:List I)
 |mp (l:List (Int×Int))
 |qa (l:List (ByteArray×I))
 |jM (l:List ByteArray)
 |si (s:ByteArray) (p:Nat)
def aK.toOwn (h:Nat→Nat):aK→Own
 |.none=>.none
 |.box l=>.box (I.al h l)
 |.arr E t l=>.arr E (sz t) l.length (fun i=>bN t (l.getD i (bY t)))
 |.vp E t l i row=>.arr E (sz t) l.length (qn (fun i=>bN t (l.getD i (bY t))) i (I.al h row))
 |.mp l=>.mp (l.map fun p=>(Value.int .i64 p.1,Value.int .i64 p.2))
 |.qa l=>.mp (l.map fun p=>(Value.string p.1,vI p.2))
 |.jM l=>.mp (l.map fun p=>(Value.string p,Value.bool true))
 |.si s p=>.si s p
def Ct:aK→Option (List (Value×Value))
 |.mp l=>some (l.map fun p=>(Value.int .i64 p.1,Value.int .i64 p.2))
 |.qa l=>some (l.map fun p=>(Value.string p.1,vI p.2))
 |.jM l=>some (l.map fun p=>(Value.string p,Value.bool true))
 |_=>none
theorem Yk {o:aK}{l:List (Value×Value)} (h:Nat→Nat) (e:Ct o=some l):o.toOwn h=.mp l:=by
 cases o<;>simp only[Ct,Option.some.injEq]at e<;>first|(cases e;done)|(subst e;rfl)
mutual
theorem ZF (h:Nat→Nat):∀ {d:I},K9 d=true→∀ κ γ sv,aW κ γ sv (d.toD h) (vI d)
 |.int _ _,_,_,_,_=>.int _ _
 |.bool _,_,_,_,_=>.bool _
 |.str _,_,_,_,_=>.str _
 |.agg l,hc,κ,γ,sv=>.agg _ _ (HE h hc κ γ sv)
 |.fn f l,hc,κ,γ,sv=>.fn f _ _ (HE h hc κ γ sv)
 |.bn _,hc,_,_,_|.sl _ _,hc,_,_,_|.ft _ _,hc,_,_,_|.nil,hc,_,_,_|.rp _ _,hc,_,_,_|.bx _ _ _,hc,_,_,_|.mb _ _ _,hc,_,_,_|.os _ _,hc,_,_,_|.op _ _ _ _ _,hc,_,_,_|.ow _ _ _ _ _,hc,_,_,_|.yl _,hc,_,_,_|.mf _ _,hc,_,_,_|.one,hc,_,_,_|.lk _,hc,_,_,_|.er _,hc,_,_,_|.undef,hc,_,_,_=>(Bool.false_ne_true hc).elim
theorem HE (h:Nat→Nat):∀ {l:List I},CL l=true→∀ κ γ sv,aD κ γ sv (I.al h l) (ZE l)
 |[],_,_,_,_=>.nil
 |d::l,hc,κ,γ,sv=>by
  simp only[CL,Bool.and_eq_true]at hc
  exact .cons _ _ _ _ (ZF h hc.1 κ γ sv) (HE h hc.2 κ γ sv)
end
mutual
theorem aeE (h:Nat→Nat):∀ {d:I},K9 d=true→∀ {κ γ sv v},aW κ γ sv (d.toD h) v→v=vI d
 |.int _ _,_,_,_,_,_,hr=>by cases hr;rfl
 |.bool _,_,_,_,_,_,hr=>by cases hr;rfl
 |.str _,_,_,_,_,_,hr=>by cases hr;rfl
 |.agg l,hc,κ,γ,sv,_,hr=>by
  cases hr with
  |agg _ vs hl=>rw[OM h hc hl];rfl
 |.fn f l,hc,κ,γ,sv,_,hr=>by
  cases hr with
  |fn _ _ vs hl=>rw[OM h hc hl];rfl
 |.bn _,hc,_,_,_,_,_|.sl _ _,hc,_,_,_,_,_|.ft _ _,hc,_,_,_,_,_|.nil,hc,_,_,_,_,_|.rp _ _,hc,_,_,_,_,_|.bx _ _ _,hc,_,_,_,_,_|.mb _ _ _,hc,_,_,_,_,_|.os _ _,hc,_,_,_,_,_|.op _ _ _ _ _,hc,_,_,_,_,_|.ow _ _ _ _ _,hc,_,_,_,_,_|.yl _,hc,_,_,_,_,_|.mf _ _,hc,_,_,_,_,_|.one,hc,_,_,_,_,_|.lk _,hc,_,_,_,_,_|.er _,hc,_,_,_,_,_|.undef,hc,_,_,_,_,_=>(Bool.false_ne_true hc).elim
theorem OM (h:Nat→Nat):∀ {l:List I},CL l=true→∀ {κ γ sv vs},aD κ γ sv (I.al h l) vs→vs=ZE l
 |[],_,_,_,_,_,hr=>by cases hr;rfl
 |d::l,hc,_,_,_,_,hr=>by
  simp only[CL,Bool.and_eq_true]at hc
  cases hr with
  |cons _ v _ vs h1 h2=>rw[aeE h hc.1 h1,OM h hc.2 h2];rfl
end
def lH:List (ByteArray×I)→ByteArray→Option I
 |[],_=>none
 |p::l,s=>bif s == p.1 then some p.2 else lH l s
theorem AO:∀ (l:List (ByteArray×I)) (s:ByteArray),(fP (l.map fun p=>(p.1,vI p.2)) s).map (·.2)=(lH l s).map vI∧(fP (l.map fun p=>(p.1,vI p.2)) s).isSome=(lH l s).isSome
 |[],s=>⟨rfl,rfl⟩
 |p::l,s=>by
  obtain ⟨h1,h2⟩:=AO l s
  simp only[List.map_cons,fP,lH]
  cases s == p.1 with
  |true=>exact⟨rfl,rfl⟩
  |false =>
   simp only[cond_false]
   refine ⟨?_,?_⟩
   ·rw[← h1];cases fP (l.map fun p=>(p.1,vI p.2)) s<;>rfl
   ·rw[← h2];cases fP (l.map fun p=>(p.1,vI p.2)) s<;>rfl
def nW:List ByteArray→ByteArray→Bool
 |[],_=>false
 |p::l,s=>bif s == p then true else nW l s
theorem Hl:∀ (l:List ByteArray) (s:ByteArray),(fP (l.map fun p=>(p,Value.bool true)) s).map (·.2)=(bif nW l s then some (.bool true) else none)∧(fP (l.map fun p=>(p,Value.bool true)) s).isSome=nW l s
 |[],s=>⟨rfl,rfl⟩
 |p::l,s=>by
  obtain ⟨h1,h2⟩:=Hl l s
  simp only[List.map_cons,fP,nW]
  cases s == p with
  |true=>exact⟨rfl,rfl⟩
  |false =>
   simp only[cond_false]
   refine ⟨?_,?_⟩
   ·rw[← h1];cases fP (l.map fun p=>(p,Value.bool true)) s<;>rfl
   ·rw[← h2];cases fP (l.map fun p=>(p,Value.bool true)) s<;>rfl
structure IS where
 rs:List (Nat×I)
 gs:List (Nat×Nat)
 os:List (Nat×aK)
def IS.get (S:IS) (t:Nat):I:=look .undef S.rs t
def IS.gen (S:IS) (s:Nat):Nat:=look 0 S.gs s
def IS.own (S:IS) (s:Nat):aK:=look .none S.os s
def IS.toSt (h:Nat→Nat) (S:IS):St:=⟨fun t=>(S.get t).toD h,fun s=>h s+S.gen s,fun s=>(S.own s).toOwn h⟩
structure aX extends Seat where
 gI:Nat→Option (List I)
 adf:∀ g h,toSeat.nU g=(gI g).map (I.al h)
 ty:Nat→Option T
 Ks:∀ E t q,ty E=some t→nth toSeat.bL E=some q→Nat.beq q.k 9=false∧q.sz=sz t∧q.zs.length=sz t
 ik:Nat→Option IntKind
 JV:∀ t k,ik t=some k→toSeat.P.underlying t=some (.int k)
 isB:Nat→Bool
 M7:∀ t,isB t=true→toSeat.P.underlying t=some .bool
 Q0:Nat→Bool
 M9:∀ t,Q0 t=true→∃ d,toSeat.P.underlying t=some d∧nA toSeat.P t=false
 Fx:Nat→Bool
 tK:∀ t,Fx t=true→toSeat.P.underlying t=some .string
 Na:Nat→Bool
 Nb:∀ t,Na t=true→A8 toSeat.P t
 isI:Nat→Bool
 X7:∀ t,isI t=true→toSeat.P.underlying t=some (.interface (toSeat.P.methodsAt t))
 bt:Nat→Option Nat
def abq:Value→I
 |.int k n=>.int k n
 |.bool b=>.bool b
 |.string s=>.str s
 |.slice none 0 0=>.nil
 |.nilIface=>.er true
 |.pointer none=>.lk .np
 |_=>.undef
def abr:Value→I
 |.agg cs=>.agg (cs.toList.map abq)
 |v=>abq v
def IS.ev (Z:aX) (nt:Nat) (S:IS):Operand→I
 |.tmp t=>bif Nat.blt t nt then S.get t else .undef
 |.const v=>abr v
 |.global g=>match Z.gI g with|some l=>.rp l 0|none=>.undef
 |.func f=>.fn f []
theorem ef (h:Nat→Nat):∀ l:List I,I.al h l=l.map (I.toD h)
 |[]=>rfl
 |d::l=>by simp only[I.al,List.map_cons,ef h l]
theorem RO (h:Nat→Nat) (v:Value):(abq v).toD h=Rf v:=by
 cases v<;>try rfl
 ·rename_i p
  cases p<;>rfl
 ·rename_i a n c
  cases a<;>cases n<;>cases c<;>rfl
theorem ag5 (h:Nat→Nat) (v:Value):(abr v).toD h=Yq v:=by
 cases hv:v with
 |agg cs =>
  simp only[abr,Yq,I.toD,ef,List.map_map]
  congr 1
  exact List.map_congr_left fun x _=>RO h x
 |_=>(try rfl)<;>(rw[← hv];have:=RO h v;rw[hv]at this ⊢;exact this)
structure Ef where
 t:Option Nat
 d:I
 g:Option (Nat×Nat)
 o:Option (Nat×aK)
def Ef.wr (e:Ef):Wr:=⟨e.t,e.g.map (·.1),e.o.map (·.1)⟩
def Ef.vl (h:Nat→Nat) (e:Ef):Vl:=⟨e.d.toD h,match e.g with|some p=>h p.1+p.2|none=>0,match e.o with|some p=>p.2.toOwn h|none=>.none⟩
def IS.dE (S:IS) (e:Ef):IS :=
 ⟨match e.t with|some t=>(t,e.d)::S.rs|none=>S.rs,match e.g with|some p=>p::S.gs|none=>S.gs,match e.o with|some p=>p::S.os|none=>S.os⟩
theorem uK {α β:Type} (f:α→β) (e:α) (i:Nat) (a:α) (l:List (Nat×α)):(fun j=>f (look e ((i,a)::l) j))=aG (fun j=>f (look e l j)) i (f a):=by
 funext j
 simp only[kE,jL,kF,aG]
 cases Nat.beq j i<;>rfl
theorem fe (h:Nat→Nat) (S:IS) (e:Ef):(S.dE e).toSt h=(S.toSt h).app e.wr (e.vl h):=by
 obtain ⟨t,d,g,o⟩:=e
 unfold IS.toSt St.app IS.dE Ef.wr Ef.vl
 congr 1
 ·cases t with
  |none=>rfl
  |some t=>exact uK (I.toD h) .undef t d S.rs
 ·cases g with
  |none=>rfl
  |some p =>
   funext j
   simp only[IS.gen,kE,jL,kF,Option.map_some,vL,aG]
   cases hb:Nat.beq j p.1 with
   |false=>rfl
   |true=>have:=Nat.eq_of_beq_eq_true hb;subst this;rfl
 ·cases o with
  |none=>rfl
  |some p=>exact uK (aK.toOwn h) .none p.1 p.2 S.os
mutual
def gN:I→List Nat
 |.bx s _ _=>[s]
 |.mb s _ _=>[s]
 |.os s _=>[s]
 |.op s _ _ _ _=>[s]
 |.ow s _ _ _ _=>[s]
 |.agg l=>ez l
 |.bn l=>ez l
 |.fn _ l=>ez l
 |.mf _ l=>ez l
 |_=>[]
def ez:List I→List Nat
 |[]=>[]
 |d::l=>gN d++ez l
end
mutual
theorem FK (h:Nat→Nat):∀ d:I,Rr (d.toD h)=gN d
 |.int _ _=>rfl|.bool _=>rfl|.str _=>rfl|.sl _ _=>rfl|.ft _ l=>(by cases l<;>rfl)|.nil=>rfl|.rp _ _=>rfl|.bx _ _ _=>rfl|.mb _ _ _=>rfl|.os _ _=>rfl|.op _ _ _ _ _=>rfl|.ow _ _ _ _ _=>rfl|.yl _=>rfl|.one=>rfl|.lk _=>rfl|.er _=>rfl|.undef=>rfl
 |.agg l=>wz h l
 |.bn l=>wz h l
 |.fn _ l=>wz h l
 |.mf _ l=>wz h l
theorem wz (h:Nat→Nat):∀ l:List I,NF (I.al h l)=ez l
 |[]=>rfl
 |d::l=>by simp only[I.al,NF,ez,FK h d,wz h l]
end
def Ae:List I→Option TypeId
 |.mb _ _ T::_=>some T
 |_=>none
theorem sW (h:Nat→Nat) (l:List I):ph (I.al h l)=Ae l:=by
 cases l with
 |nil=>rfl
 |cons d l=>cases d<;>first|rfl|(rename_i t m;cases m<;>rfl)
def UA:Option TypeId→Option TypeId→Bool
 |none,_=>true
 |some T,some T'=>Nat.beq T T'
 |_,_=>false
theorem Hk {a b:Option TypeId} (h:UA a b=true):∀ T0,a=some T0→b=some T0:=fun T0 e=>by
 subst e
 cases b with
 |none=>cases h
 |some T'=>rw[Nat.eq_of_beq_eq_true h]
def qh (Z:aX) (nt:Nat) (S:IS):List Operand→List Nat
 |[]=>[]
 |x::l=>gN (S.ev Z nt x)++qh Z nt S l
def Yb (Z:aX) (nt:Nat) (S:IS) (o:Oper):Lc :=
 ⟨slotsOf o.op.operands.toList,(match lvl o with|0=>[]|_=>qh Z nt S o.op.operands.toList),(match lvl o with|0=>[]|1=>[]|_=>qh Z nt S o.op.operands.toList)⟩
def sa (X:Ctx) (o:Oper) (T T':St):Prop:=∀ κ sv a w,bk X κ sv T a w→∀ K Qw,(∀ aA aQ a' w',bk X aA aQ T' a' w'→K a' w')→o.wpIn X.F 0 X.Z.P a w K Qw
abbrev vm (X:Ctx):Prop:=∀ p,X.xa p=true→XB≤p
structure At (X:Ctx) (Z:aX) (nt:Nat):Prop where
 Z:X.Z=Z.toSeat
 nt:X.nt=nt
 xa:∀ p,X.xa p=true→XB≤p
theorem At.pl {X:Ctx}{Z:aX}{nt:Nat} (h1:X.Z=Z.toSeat) (h2:X.nt=nt) (h3:∀ p,X.xa p=false):At X Z nt:=⟨h1,h2,fun p h=>by rw[h3 p]at h;cases h⟩
section
variable {X:Ctx}{Z:aX}{nt:Nat}{S:IS}{o:Oper}{h:Nat→Nat}{T:St}
theorem dO (hX:At X Z nt) (x:Operand):(S.toSt h).ev X x=(S.ev Z nt x).toD h:=by
 cases x with
 |tmp t =>
  simp only[St.ev,IS.ev,hX.nt]
  cases Nat.blt t nt<;>rfl
 |const v=>exact(ag5 h v).symm
 |func f=>rfl
 |global g =>
  simp only[St.ev,IS.ev,hX.Z]
  rw[Z.adf g h]
  cases Z.gI g<;>rfl
theorem NI (hX:At X Z nt):∀ l:List Operand,NH X (S.toSt h) l=qh Z nt S l
 |[]=>rfl
 |x::l=>by simp only[NH,qh,dO hX,FK,NI hX l]
theorem afY (hX:At X Z nt):vF X (S.toSt h) o=Yb Z nt S o:=by
 simp only[vF,Yb,NI hX]
 cases lvl o with
 |zero=>rfl
 |succ n=>cases n<;>rfl
structure Ag (X:Ctx) (Z:aX) (nt:Nat) (S:IS) (h:Nat→Nat) (T:St) (o:Oper):Prop where
 at':At X Z nt
 agr:rk (vF X (S.toSt h) o) (S.toSt h) T
theorem Ag.ev (ha:Ag X Z nt S h T o) {x:Operand} (hx:x∈o.op.operands.toList) {d:I} (hd:S.ev Z nt x=d):T.ev X x=d.toD h:=by
 rw[Z1 ha.agr hx,dO ha.at',hd]
theorem Ag.γ (ha:Ag X Z nt S h T o) (hl:lvl o≠0) {x:Operand} (hx:x∈o.op.operands.toList) {s:Nat} (hs:s∈gN (S.ev Z nt x)):T.γ s=h s+S.gen s :=
 Z2 ha.agr hl hx (by rw[dO ha.at',FK];exact hs)
theorem Ag.σ (ha:Ag X Z nt S h T o) (hl:lvl o=2) {x:Operand} (hx:x∈o.op.operands.toList) {s:Nat} (hs:s∈gN (S.ev Z nt x)):T.σ s=(S.own s).toOwn h :=
 Z3 ha.agr hl hx (by rw[dO ha.at',FK];exact hs)
theorem Ag.self (hX:At X Z nt):Ag X Z nt S h (S.toSt h) o:=⟨hX,⟨fun _ _=>rfl,fun _ _=>rfl,fun _ _=>rfl⟩⟩
def dA (X:Ctx) (Z:aX) (nt:Nat) (o:Oper) (S:IS) (e:Ef):Prop:=∀ h T,Ag X Z nt S h T o→(∀ p,e.g=some p→T.γ p.1=h p.1+S.gen p.1)→sa X o T (T.app e.wr (e.vl h))
theorem ak5 {d:D}{t:Nat}{g:Nat}{ow:Own} (hd:o.dst=some t) (hq:dy X o T d):sa X o T (T.app ⟨some t,none,none⟩ ⟨d,g,ow⟩):=fun κ sv a w hs K Qw hK=>by
 obtain ⟨v,h1,h2⟩:=hq κ sv a w hs
 refine wv (h2 w (Below.refl _ _)) ?_
 rw[hd]
 exact hK κ sv _ _ (hs.put (some t) h1)
theorem eK {T':St} (hn:kf X o T T'):sa X o T T':=fun κ sv a w hs K Qw hK=>by
 obtain ⟨v,w',aA,aQ,h1,h2⟩:=hn κ sv a w hs
 rcases h1 with h1|⟨h1,rfl⟩
 ·exact wv h1 (hK aA aQ _ _ h2)
 ·exact Rk h1 (hK aA aQ _ _ h2)
theorem sa.wk {T1 T2:St} (h1:sa X o T T1) (hw:Wk X T1 T2):sa X o T T2:=fun κ sv a w hs K Qw hK =>
 h1 κ sv a w hs K Qw fun aA aQ a' w' fN =>
  let ⟨fh,fI,hs2⟩:=hw aA aQ a' w' fN
  hK fh fI a' w' hs2
def vE (t:Nat) (d:I):Ef:=⟨some t,d,none,none⟩
theorem dJ {d:I}{t:Nat} (hd:o.dst=some t) (hq:∀ h T,Ag X Z nt S h T o→dy X o T (d.toD h)):dA X Z nt o S (vE t d):=fun h T ha _=>ak5 hd (hq h T ha)
end
def ao {R:Type} (b:Bool) (r:Option R):Option R:=bif b then r else none
theorem aq {R:Type}{b:Bool}{r:Option R}{x:R} (h:ao b r=some x):b=true∧r=some x:=by
 cases b with
 |true=>exact⟨rfl,h⟩
 |false=>cases h
section
variable {α β:Type}
def rE:Nat→List α→Option (List α)
 |0,_=>some []
 |n+1,d::l=>match rE n l with
  |some m=>some (d::m)
  |none=>none
 |_+1,[]=>none
def sJ:Nat→List α→List α
 |0,l=>l
 |n+1,_::l=>sJ n l
 |_+1,[]=>[]
def eZ:List α→Nat→List α→Option (List α)
 |l,0,[]=>some l
 |_::l,0,d::m=>match eZ l 0 m with
  |some k=>some (d::k)
  |none=>none
 |x::l,j+1,m=>match eZ l j m with
  |some k=>some (x::k)
  |none=>none
 |[],_,_=>none
def Gz (pl:Nat→Option (Nat×Nat)):List α→List (Nat×List α)→Option (List α)
 |l,[]=>some l
 |l,(i,m)::rest=>match pl i with
  |some (off,sz)=>bif Nat.beq m.length sz then (match eZ l off m with|some l'=>Gz pl l' rest|none=>none) else none
  |none=>none
end
theorem oT (h:Nat→Nat):∀ {n:Nat}{l m:List I},rE n l=some m→takeN n (I.al h l)=some (I.al h m)
 |0,l,m,e=>by simp[rE]at e;subst e;rfl
 |n+1,[],m,e=>by simp[rE]at e
 |n+1,d::l,m,e=>by
  unfold rE at e
  cases h1:rE n l with
  |none=>rw[h1]at e;cases e
  |some m' =>
   rw[h1]at e
   simp only[Option.some.injEq]at e
   subst e
   simp only[I.al,takeN,oT h h1]
theorem oz (h:Nat→Nat):∀ (n:Nat) (l:List I),k6 n (I.al h l)=I.al h (sJ n l)
 |0,l=>by simp[k6,sJ]
 |n+1,[]=>by simp[k6,sJ,I.al]
 |n+1,d::l=>by simp only[I.al,k6,sJ,oz h n l]
theorem nh (h:Nat→Nat):∀ {l m k:List I}{j:Nat},eZ l j m=some k→iy (I.al h l) j (I.al h m)=some (I.al h k)
 |l,[],k,0,e=>by
  cases l<;>(simp[eZ]at e;subst e;simp[I.al,iy])
 |[],m,k,j+1,e=>by simp[eZ]at e
 |[],d::m,k,0,e=>by simp[eZ]at e
 |x::l,d::m,k,0,e=>by
  unfold eZ at e
  cases h1:eZ l 0 m with
  |none=>rw[h1]at e;cases e
  |some k' =>
   rw[h1]at e
   simp only[Option.some.injEq]at e
   subst e
   simp only[I.al,iy,nh h h1]
 |x::l,m,k,j+1,e=>by
  unfold eZ at e
  cases h1:eZ l j m with
  |none=>rw[h1]at e;cases e
  |some k' =>
   rw[h1]at e
   simp only[Option.some.injEq]at e
   subst e
   have:=nh h h1
   cases m<;>simp only[I.al,iy]at this ⊢<;>rw[this]
theorem fc (h:Nat→Nat) (l:List I):(I.al h l).length=l.length:=by simp[ef]
theorem GA (h:Nat→Nat) (pl:Nat→Option (Nat×Nat)):∀ {ps:List (Nat×List I)}{l k:List I},Gz pl l ps=some k→yY pl (I.al h l) (ps.map fun p=>(p.1,I.al h p.2))=some (I.al h k)
 |[],l,k,e=>by simp[Gz]at e;subst e;rfl
 |(i,m)::ps,l,k,e=>by
  simp only[Gz]at e
  simp only[List.map_cons,yY,fc]
  cases hp:pl i with
  |none=>rw[hp]at e;cases e
  |some q =>
   obtain ⟨off,sz⟩:=q
   rw[hp]at e
   simp only at e ⊢
   cases hb:Nat.beq m.length sz with
   |false=>rw[hb]at e;cases e
   |true =>
    rw[hb]at e
    simp only[cond_true]at e ⊢
    cases ho:eZ l off m with
    |none=>rw[ho]at e;cases e
    |some l' =>
     rw[ho]at e
     rw[nh h ho]
     exact GA h pl e
theorem jT (h:Nat→Nat):∀ {l:List I}{n:Nat}{d:I},nth l n=some d→nth (I.al h l) n=some (d.toD h)
 |[],n,d,e=>by simp[nth]at e
 |x::l,0,d,e=>by simp[nth]at e;subst e;rfl
 |x::l,n+1,d,e=>by simp only[nth]at e;simp only[I.al,nth];exact jT h e
def I.iY:I→Bool
 |.agg _|.bn _|.undef=>false
 |_=>true
def I.cells:I→List I
 |.agg l=>l
 |d=>[d]
def pD:List I→Bool
 |[]=>true
 |d::l=>d.iY&&pD l
theorem Uq (h:Nat→Nat) (d:I):(d.toD h).iY=d.iY:=by cases d<;>first|rfl|(rename_i l;cases l<;>rfl)
theorem ji (h:Nat→Nat):∀ l:List I,aY (I.al h l)=pD l
 |[]=>rfl
 |d::l=>by simp only[I.al,aY,pD,Uq,ji h l]
theorem jj (h:Nat→Nat) (d:I):(d.toD h).cells=I.al h d.cells:=by cases d<;>first|rfl|(rename_i l;cases l<;>rfl)
def zI:Zr→I
 |.i k=>.int k 0
 |.b=>.bool false
 |.s=>.str ⟨#[]⟩
 |.sl=>.nil
 |.o=>.one
 |.np=>.lk .np
 |.ni=>.er true
theorem s6 (h:Nat→Nat):∀ zs:List Zr,I.al h (zs.map zI)=zs.map Zr.toD
 |[]=>rfl
 |z::zs=>by simp only[List.map_cons,I.al,s6 h zs];cases z<;>rfl
end
end Go.Ab
namespace Go.Ab
open Go Go.RowKit
set_option linter.all false
def abt (l:List Int):Bool:=l.all fun n=>decide (0≤n)&&decide (n<256)
def vq (l:List Int):List UInt8:=l.map fun n=>UInt8.ofNat n.toNat
theorem agi {l:List Int} (h:abt l=true) {j:Nat} (hj:j<l.length):0≤l[j]∧l[j]<256:=by
 have:=List.all_eq_true.1 h _ (List.getElem_mem hj)
 simpa using this
section
variable {X:Ctx}{o:Oper}{S:St}{x:Operand}
theorem anQ {T T2 e:TypeId}{l:List Int}{f:Nat→List D} (ho:o.op=.convert T T2 x) (hT:X.Z.P.underlying T=some (.slice e)) (he:X.Z.P.underlying e=some (.int .u8)) (XH:X.Z.P.underlying T2=some .string)
  (hx:S.ev X x=.sl 1 l.length f) (hf:∀ i,i<l.length→f i=[.int .u8 (l.getD i 0)]) (h8:abt l=true) (h0:l≠[]):dy X o S (.str ⟨(vq l).toArray⟩):=fun κ sv a w hs=>by
 have h1:=hs.ev x
 rw[hx]at h1
 generalize hn:l.length=n at h1
 generalize hv:a.eval x=v at h1
 have Um:0<n:=by rw[← hn];exact List.length_pos_iff.2 h0
 cases h1 with
 |lI=>omega
 |kV=>omega
 |sl _ _ _ b off cap u hc hl ou hr bQ =>
  refine ⟨.string ⟨(vq l).toArray⟩,.str _,fun w' hb=>?_⟩
  have hlen:(vq l).length=n:=by unfold vq;rw[List.length_map,hn]
  have iW:∀ j (hj:j<(vq l).length),w'.cell? (Addr.add ⟨b,off,none⟩ j)=some (.int .u8 ((vq l)[j].toNat:Int)):=fun j hj=>by
   have hj':j<n:=by omega
   have r:=hr j hj'
   rw[hf j (by omega)]at r
   have hu:u j=[.int .u8 (l.getD j 0)]:=by
    generalize u j=uj at r
    cases r with
    |cons _ v _ vs r1 r2=>cases r1;cases r2;rfl
   have hk:=bQ j 0 (.int .u8 (l.getD j 0)) hj' (by rw[hu];rfl)
   rw[Nat.mul_one,Nat.add_zero]at hk
   have hc:=hs.aJ.gU _ _ _ hk
   have e:Addr.add ⟨b,off,none⟩ j=⟨b,off+j,none⟩:=by simp[Addr.add]
   rw[e,(hb.cell (World.block_lt_of_cell? w _ hc)).trans hc]
   have mT:j<l.length:=by omega
   have h2:=agi h8 mT
   rw[List.getD_eq_getElem?_getD,List.getElem?_eq_getElem mT]
   have e2:(vq l)[j]'hj=UInt8.ofNat (l[j]).toNat:=by simp[vq]
   rw[e2,UInt8.toNat_ofNat',Option.getD_some]
   congr 2
   omega
  have:=run_convert_bytes_back (P:=X.Z.P) w' T T2 e ⟨b,off,none⟩ cap (vq l) hT he XH iW
  rw[hlen]at this
  simp only[execOp,ho,hv]
  simp[this]
end
end Go.Ab
namespace Go.Ab
open Go Go.RowKit
set_option linter.all false
set_option maxHeartbeats 1000000
noncomputable section
section
variable {R:Type}{X:Ctx}{Z:aX}{nt:Nat}{S:IS}{o:Oper}{r:R}{k:Ef→Option R}{t:Nat}
def isNil:Operand→Bool
 |.const (.slice none 0 0)=>true
 |_=>false
theorem Nc {x:Operand} (h:isNil x=true):x=.const (.slice none 0 0):=by
 unfold isNil at h
 split at h
 ·rfl
 ·cases h
def alL (Z:aX) (ty:Nat):Option (Nat×T):=match nth Z.bL ty with
 |some r=>bif Nat.beq r.k 3 then (match Z.ty r.el with|some t=>some (r.el,t)|none=>none) else none
 |none=>none
def nj (S:IS) (t s:Nat) (ow:aK):Ef:=⟨some t,.os s (S.gen s+1),some (s,S.gen s+1),some (s,ow)⟩
theorem gL {h:Nat→Nat}{T:St}{t s:Nat}{ow:aK} (dk:T.γ s=h s+S.gen s):T.owned t s (ow.toOwn h)=T.app (nj S t s ow).wr ((nj S t s ow).vl h):=by
 unfold St.owned St.app nj Ef.wr Ef.vl
 rw[dk];rfl
theorem anE {T:St}{x:Operand}{E z:Nat}{f:Nat→List D} (ho:o.op=.move x∨o.op=.assign x) (hd:o.dst=some t) (hx:x=.const (.slice none 0 0)):kf X o T (T.owned t t (.arr E z 0 f)):=fun κ sv a w hs=>by
 subst hx
 refine ⟨.slice none 0 0,w,κ,aG sv t (.slice none 0 0),.inl ?_,?_⟩
 ·rcases ho with ho|ho<;>simp[execOp,ho,Act.eval]
 ·rw[hd]
  exact fk hs t t (pv:=.slice none 0 0) (ow:=.arr E z 0 f) rfl (cL (Below.refl _ _) _) (fun b hb=>by cases hb)
   ⟨[],by rw[aC];exact qd _ _ _ _,fun _ h=>by omega,fun _ h=>by omega,fun _ h=>by omega⟩
def Hq (Z:aX) (nt:Nat) (S:IS) (ty:Nat) (t:Nat) (x:Operand) (k:Ef→Option R):Option R :=
 bif isNil x then (match alL Z ty with|some p=>k (nj S t t (.arr p.1 p.2 []))|none=>k (vE t .nil)) else k (vE t (S.ev Z nt x))
theorem Rj {x:Operand}{ty:Nat} (ho:o.op=.move x∨o.op=.assign x) (hd:o.dst=some t) (h:Hq Z nt S ty t x k=some r):∃ e,k e=some r∧dA X Z nt o S e:=by
 have q:dA X Z nt o S (vE t (S.ev Z nt x)):=dJ hd fun h T ha=>by
  rcases ho with ho|ho
  ·exact Y5 ho (ha.ev (by rw[ho];simp[Op.operands]) rfl)
  ·exact N6 ho (ha.ev (by rw[ho];simp[Op.operands]) rfl)
 unfold Hq at h
 cases hn:isNil x with
 |false=>rw[hn]at h;exact⟨_,h,q⟩
 |true =>
  rw[hn]at h
  have hx:=Nc hn
  simp only[cond_true]at h
  cases hs:alL Z ty with
  |none =>
   rw[hs]at h
   have:S.ev Z nt x=.nil:=by rw[hx];rfl
   rw[this]at q
   exact⟨_,h,q⟩
  |some p =>
   rw[hs]at h
   refine ⟨_,h,fun h T ha hg=>?_⟩
   rw[← gL (hg _ rfl)]
   exact eK (anE ho hd hx)
theorem U1 {x:Operand} (ho:o.op=.move x∨o.op=.assign x) (hd:o.dst=some t) (hn:isNil x=true) (h:k (vE t .nil)=some r):∃ e,k e=some r∧dA X Z nt o S e:=by
 have hx:=Nc hn
 have q:dA X Z nt o S (vE t (S.ev Z nt x)):=dJ hd fun h T ha=>by
  rcases ho with ho|ho
  ·exact Y5 ho (ha.ev (by rw[ho];simp[Op.operands]) rfl)
  ·exact N6 ho (ha.ev (by rw[ho];simp[Op.operands]) rfl)
 have:S.ev Z nt x=.nil:=by rw[hx];rfl
 rw[this]at q
 exact⟨_,h,q⟩
def U3 (Z:aX) (nt:Nat) (S:IS) (t:Nat) (c x y:Operand) (k:Ef→Option R):Option R:=match S.ev Z nt c with
 |.bool b=>bif b then k (vE t (S.ev Z nt x)) else k (vE t (S.ev Z nt y))
 |_=>none
theorem agE {c x y:Operand} (ho:o.op=.pick c x y) (hd:o.dst=some t) (h:U3 Z nt S t c x y k=some r):∃ e,k e=some r∧dA X Z nt o S e:=by
 unfold U3 at h
 split at h
 ·rename_i b hb
  cases b with
  |true=>exact⟨_,h,dJ hd fun h T ha=>agR ho (ha.ev (by rw[ho];simp[Op.operands]) hb) (ha.ev (by rw[ho];simp[Op.operands]) rfl)⟩
  |false=>exact⟨_,h,dJ hd fun h T ha=>agQ ho (ha.ev (by rw[ho];simp[Op.operands]) hb) (ha.ev (by rw[ho];simp[Op.operands]) rfl)⟩
 ·cases h
def zh:Nat→Nat:=fun _=>0
theorem Jl (h:Nat→Nat):∀ {l m:List I}{b:Bool},fw (I.al zh l) (I.al zh m)=some b→fw (I.al h l) (I.al h m)=some b
 |[],[],b,e=>e
 |[],_::_,b,e=>by simp[I.al,fw]at e
 |x::l,[],b,e=>by cases x<;>first|(simp[I.al,I.toD,fw,AV]at e;done)|(simp only[I.al,I.toD,RJ]at e;split at e<;>simp[fw,AV]at e)
 |x::l,y::m,b,e=>by
  cases x<;>cases y<;>(try (simp only[I.al,I.toD,RJ]at e;repeat' split at e)<;>(simp[fw,AV]at e;done))<;>simp only[I.al,I.toD,fw,AV]at e ⊢<;>try (cases e;done)
  ·cases hk:(_:IntKind) == _ with
   |false=>simp[hk]at e
   |true =>
    simp only[hk]at e ⊢
    cases hr:fw (I.al zh l) (I.al zh m) with
    |none=>rw[hr]at e;simp at e
    |some r=>rw[hr]at e;rw[Jl h hr];exact e
  ·cases hr:fw (I.al zh l) (I.al zh m) with
   |none=>rw[hr]at e;simp at e
   |some r=>rw[hr]at e;rw[Jl h hr];exact e
theorem Xr (h:Nat→Nat) (P:Program) (f:Field) (d:I):vV P f (d.toD h)=vV P f (d.toD zh):=by cases d<;>first|rfl|(rename_i l;cases l<;>rfl)
theorem EB (h:Nat→Nat) (P:Program):∀ (fs:List Field) (l:List I) (n:Nat),k7 P fs (I.al h l) n=k7 P fs (I.al zh l) n
 |[],[],n=>rfl
 |[],_::_,n=>rfl
 |_::_,[],n=>rfl
 |f::fs,d::l,n=>by simp only[I.al,k7,Xr h,EB h P fs l]
theorem QA (h:Nat→Nat) (P:Program) (ty:TypeId) (l:List I):pK P ty (I.al h l)=pK P ty (I.al zh l):=by
 unfold pK
 split
 ·rw[EB]
 ·rfl
theorem Cb (h:Nat→Nat) (P:Program):∀ (fs:List Field) (l:List I) (n:Nat),kN P fs (I.al h l) n=kN P fs (I.al zh l) n
 |[],[],n=>rfl
 |[],_::_,n=>rfl
 |f::fs,l,n=>by
  have e1:∀ h:Nat→Nat,∀ (l:List I) k,(I.al h l).take k=I.al h (l.take k):=fun h l k=>by simp[ef,List.map_take]
  have e2:∀ h:Nat→Nat,∀ (l:List I) k,(I.al h l).drop k=I.al h (l.drop k):=fun h l k=>by simp[ef,List.map_drop]
  have e3:∀ (l:List I),(I.al h l).length=(I.al zh l).length:=fun l=>by simp[ef]
  simp only[kN,e1,e2,QA h,e3,Cb h P fs]
theorem Qz (h:Nat→Nat) (P:Program) (ty:TypeId) (l:List I):ru P ty (I.al h l)=ru P ty (I.al zh l):=by
 unfold ru EL
 rw[QA]
 split
 ·rw[Cb]
 ·rfl
def Ur:Operand→Bool
 |.const _=>true
 |_=>false
def J6 (Z:aX) (cn:Bool) (t:Nat) (op:BinOp) (ty:TypeId) (k:Ef→Option R):I→I→Option R
 |.int k1 m,.int k2 n=>match op with
  |.eql=>ao (decide (k1=k2)) (k (vE t (.bool (m == n))))
  |.neq=>ao (decide (k1=k2)) (k (vE t (.bool (m != n))))
  |.lss=>ao (decide (k1=k2)) (k (vE t (.bool (decide (m<n)))))
  |.leq=>ao (decide (k1=k2)) (k (vE t (.bool (decide (m≤n)))))
  |.gtr=>ao (decide (k1=k2)) (k (vE t (.bool (decide (m > n)))))
  |.geq=>ao (decide (k1=k2)) (k (vE t (.bool (decide (m ≥ n)))))
  |.add=>ao (decide (k1=k2)) (k (vE t (.int k1 (k1.wrap (m+n)))))
  |.sub=>ao (decide (k1=k2)) (k (vE t (.int k1 (k1.wrap (m - n)))))
  |.mul=>ao (decide (k1=k2)) (k (vE t (.int k1 (k1.wrap (m * n)))))
  |.quo=>ao (decide (k1=k2)) (ao (n != 0) (k (vE t (.int k1 (k1.wrap (m.tdiv n))))))
  |.rem=>ao (decide (k1=k2)) (ao (n != 0) (k (vE t (.int k1 (m.tmod n)))))
  |.xor=>ao (decide (k1=k2)) (k (vE t (.int k1 (k1.wrap (BitVec.ofInt k1.bits m ^^^ BitVec.ofInt k1.bits n).toNat))))
  |.and=>ao (decide (k1=k2)) (k (vE t (.int k1 (k1.wrap (BitVec.ofInt k1.bits m &&& BitVec.ofInt k1.bits n).toNat))))
  |.andNot=>ao (decide (k1=k2)) (k (vE t (.int k1 (k1.wrap (BitVec.ofInt k1.bits m &&& ~~~BitVec.ofInt k1.bits n).toNat))))
  |.shr=>ao (decide (0≤n)) (k (vE t (.int k1 (m.fdiv (2 ^ (min n.toNat k1.bits))))))
  |.shl=>ao (decide (0≤n)) (k (vE t (.int k1 (k1.wrap (m * 2 ^ (min n.toNat k1.bits))))))
  |_=>none
 |.bool a,.bool b=>match op with
  |.eql=>ao (Z.isB ty) (k (vE t (.bool (a == b))))
  |.neq=>ao (Z.isB ty) (k (vE t (.bool (!(a == b)))))
  |_=>none
 |.str a,.str b=>(match op with
  |.eql=>k (vE t (.bool (a.toList == b.toList)))
  |.neq=>k (vE t (.bool (!(a.toList == b.toList))))
  |.add=>ao (decide (a.size+b.size≤9223372036854775807)) (k (vE t (.str (KY a b))))
  |_=>none)
 |.agg l,.agg m=>ao (ru Z.P ty (I.al zh l)) (match fw (I.al zh l) (I.al zh m) with
  |some b=>(match op with
   |.eql=>k (vE t (.bool b))
   |.neq=>k (vE t (.bool (!b)))
   |_=>none)
  |none=>none)
 |.ft _ l,.nil=>(match op with
  |.eql=>(match nth Z.bL ty with
   |some q=>ao (Nat.beq q.k 3) (k (vE t (.bool l.isEmpty)))
   |none=>none)
  |_=>none)
 |.nil,.nil=>(match op with
  |.eql=>(match nth Z.bL ty with
   |some q=>ao (Nat.beq q.k 3) (k (vE t (.bool true)))
   |none=>none)
  |_=>none)
 |.sl _ l,.nil=>(match op with
  |.eql=>(match nth Z.bL ty with
   |some q=>ao (Nat.beq q.k 3&&!l.isEmpty) (k (vE t (.bool false)))
   |none=>none)
  |_=>none)
 |.er a,.er b=>ao (Z.isI ty&&b&&cn) (match op with
  |.eql=>k (vE t (.bool a))
  |.neq=>k (vE t (.bool (!a)))
  |_=>none)
 |_,_=>none
theorem ad0 {T:St}{ty nz:TypeId}{x y:Operand}{c:Bool} (hc:Ur y=true) (hi:X.Z.P.underlying ty=some (.interface (X.Z.P.methodsAt ty))) (hx:T.ev X x=.lk (Nv c)) (hy:T.ev X y=.lk (Nv true)) :
  (o.op=.binOp .eql ty x y nz→dy X o T (.bool c))∧(o.op=.binOp .neq ty x y nz→dy X o T (.bool (!c))):=by
 have key:∀ {κ sv a w},bk X κ sv T a w→a.eval y=.nilIface∧((c=true∧a.eval x=.nilIface)∨(c=false∧∃ t p,a.eval x=.iface t p)):=fun {κ sv a w} hs=>by
  have h1:=hs.ev x
  rw[hx]at h1
  have h2:=hs.ev y
  rw[hy]at h2
  generalize a.eval x=xv at h1
  generalize a.eval y=yv at h2
  cases h2 with
  |lk _ _ e2 =>
  cases h1 with
  |lk _ _ e1 =>
  refine ⟨e2,?_⟩
  cases c with
  |true=>exact .inl ⟨rfl,e1⟩
  |false=>exact .inr ⟨rfl,e1⟩
 have gd:∀ (w:World) (op:BinOp) (v:Value),(eqGuard op ty x y v .nilIface).run X.Z.P w=.ok () w:=fun w op v=>by
  unfold eqGuard
  cases y with
  |const cv=>cases op<;>cases v<;>simp
  |_=>cases hc
 constructor<;>intro ho κ sv a w hs
 ·obtain ⟨e1,e2⟩:=key hs
  refine ⟨.bool c,.bool _,fun w' _=>?_⟩
  rcases e2 with ⟨rfl,e2⟩|⟨rfl,t,p,e2⟩
  ·simp[execOp,ho,e1,e2,gd,run_eql_nil_nil w' ty hi]
  ·simp[execOp,ho,e1,e2,gd,run_eql_held_nil w' ty t p hi]
 ·obtain ⟨e1,e2⟩:=key hs
  refine ⟨.bool (!c),.bool _,fun w' _=>?_⟩
  rcases e2 with ⟨rfl,e2⟩|⟨rfl,t,p,e2⟩
  ·simp[execOp,ho,e1,e2,gd,run_neq_nil_nil w' ty hi]
  ·simp[execOp,ho,e1,e2,gd,run_neq_held_nil w' ty t p hi]
theorem DC {T:St}{ty nz:TypeId}{x y:Operand}{u:Go.Ab.T}{l:List (den u)}{q:dM} (ho:o.op=.binOp .eql ty x y nz) (hr:nth X.Z.bL ty=some q) (hk:Nat.beq q.k 3=true) (hx:T.ev X x=RJ u l) (hy:T.ev X y=.nil):dy X o T (.bool l.isEmpty):=fun κ sv a w hs=>by
 have hu:=dp (X.Z.bG _ _ hr (by intro e;rw[e]at hk;cases hk)) hk
 have h1:=hs.ev x
 rw[hx]at h1
 have h2:=hs.ev y
 rw[hy]at h2
 generalize gk:a.eval x=xv at h1
 generalize fG:a.eval y=yv at h2
 cases h2
 refine ⟨.bool l.isEmpty,.bool _,fun w' _=>?_⟩
 cases l with
 |nil =>
  cases h1
  simp[execOp,ho,gk,fG,eqGuard,rV hu]
 |cons b l =>
  have h1:aW κ T.γ sv (AV u (b::l)) xv:=h1
  generalize hn:(b::l)=m at h1 ⊢
  have hm:m.length≠0:=by rw[← hn];simp
  have hme:m.isEmpty=false:=by rw[← hn];rfl
  unfold AV at h1
  generalize hz:m.length=z at h1 hm
  cases h1 with
  |sl _ _ _ b off cap u q1 q2 q3 q4 q5=>simp[execOp,ho,gk,fG,eqGuard,rV hu,hme]
  |lI=>exact absurd rfl hm
  |kV=>exact absurd rfl hm
theorem aby (hX:At X Z nt) {op:BinOp}{ty nz:TypeId}{x y:Operand} (ho:o.op=.binOp op ty x y nz) (hd:o.dst=some t) (h:J6 Z (Ur y) t op ty k (S.ev Z nt x) (S.ev Z nt y)=some r):∃ e,k e=some r∧dA X Z nt o S e:=by
 have mx:x∈o.op.operands.toList:=by rw[ho];simp[Op.operands]
 have my:y∈o.op.operands.toList:=by rw[ho];simp[Op.operands]
 unfold J6 at h
 split at h
 ·rename_i k1 m k2 n hx hy
  have cm:∀ {b:Bool},k1=k2→aaj op m n=some b→dA X Z nt o S (vE t (.bool b)):=fun e hc=>by
   subst e
   exact dJ hd fun h T ha=>anP ho (ha.ev mx hx) (ha.ev my hy) hc
  have ar:∀ {e:Int},k1=k2→KS op m n=some e→dA X Z nt o S (vE t (.int k1 (k1.wrap e))):=fun e hc=>by
   subst e
   exact dJ hd fun h T ha=>abV ho (ha.ev mx hx) (ha.ev my hy) hc
  split at h<;>first
   |(obtain ⟨h1,h2⟩:=aq h;exact⟨_,h2,cm (of_decide_eq_true h1) rfl⟩)
   |(obtain ⟨h1,h2⟩:=aq h;exact⟨_,h2,ar (of_decide_eq_true h1) rfl⟩)
   | (obtain ⟨h1, h⟩ := aq h
      obtain ⟨h3,h2⟩:=aq h
      have:=of_decide_eq_true h1
      subst this
      have hn:n≠0:=by simpa using h3
      refine ⟨_,h2,dJ hd fun h T ha=>?_⟩
      first
     |exact alB ho (ha.ev mx hx) (ha.ev my hy) hn
     |exact alC ho (ha.ev mx hx) (ha.ev my hy) hn)
   | (obtain ⟨h1, h2⟩ := aq h
      have:=of_decide_eq_true h1
      subst this
      refine ⟨_,h2,dJ hd fun h T ha=>?_⟩
      first
     |(have hq:=aog ho (ha.ev mx hx) (ha.ev my hy);exact hq)
     |(have hq:=anM ho (ha.ev mx hx) (ha.ev my hy);exact hq)
     |(have hq:=abU ho (ha.ev mx hx) (ha.ev my hy);exact hq))
   | (obtain ⟨h1, h2⟩ := aq h
      have:=of_decide_eq_true h1
      refine ⟨_,h2,dJ hd fun h T ha=>?_⟩
      first
     |exact aoc ho (ha.ev mx hx) (ha.ev my hy) this
     |exact aob ho (ha.ev mx hx) (ha.ev my hy) this)
   |cases h
 ·rename_i a b hx hy
  split at h
  ·obtain ⟨h1,h2⟩:=aq h
   exact⟨_,h2,dJ hd fun h T ha=>anN ho (by rw[hX.Z];exact Z.M7 _ h1) (ha.ev mx hx) (ha.ev my hy)⟩
  ·obtain ⟨h1,h2⟩:=aq h
   exact⟨_,h2,dJ hd fun h T ha=>alj ho (by rw[hX.Z];exact Z.M7 _ h1) (ha.ev mx hx) (ha.ev my hy)⟩
  ·cases h
 ·rename_i a b hx hy
  split at h
  ·exact⟨_,h,dJ hd fun h T ha=>anS ho (ha.ev mx hx) (ha.ev my hy)⟩
  ·exact⟨_,h,dJ hd fun h T ha=>an9 ho (ha.ev mx hx) (ha.ev my hy)⟩
  ·obtain ⟨h1,h2⟩:=aq h
   exact⟨_,h2,dJ hd fun h T ha=>alh ho (ha.ev mx hx) (ha.ev my hy) (of_decide_eq_true h1)⟩
  ·cases h
 ·rename_i l m hx hy
  obtain ⟨h1,h⟩:=aq h
  split at h
  ·rename_i b hb
   split at h
   ·exact⟨_,h,dJ hd fun h T ha=>anR ho (ha.ev mx hx) (ha.ev my hy) (Jl h hb) (by rw[hX.Z,Qz];exact h1)⟩
   ·exact⟨_,h,dJ hd fun h T ha=>an8 ho (ha.ev mx hx) (ha.ev my hy) (Jl h hb) (by rw[hX.Z,Qz];exact h1)⟩
   ·cases h
  ·cases h
 ·rename_i u l hx hy
  split at h
  ·split at h
   ·rename_i q hq
    obtain ⟨h1,h2⟩:=aq h
    exact⟨_,h2,dJ hd fun h T ha=>DC ho (by rw[hX.Z];exact hq) h1 (ha.ev mx hx) (ha.ev my hy)⟩
   ·cases h
  ·cases h
 ·rename_i hx hy
  split at h
  ·split at h
   ·rename_i q hq
    obtain ⟨h1,h2⟩:=aq h
    exact⟨_,h2,dJ hd fun h T ha=>DC (u:=.bool) (l:=[]) ho (by rw[hX.Z];exact hq) h1 (ha.ev mx hx) (ha.ev my hy)⟩
   ·cases h
  ·cases h
 ·rename_i u l hx hy
  split at h
  ·split at h
   ·rename_i q hq
    obtain ⟨h1,h2⟩:=aq h
    cases l with
    |nil=>simp at h1
    |cons b l =>
     simp only[List.isEmpty_cons,Bool.not_false,Bool.and_true]at h1
     exact⟨_,h2,dJ hd fun h T ha=>DC (l:=b::l) ho (by rw[hX.Z];exact hq) h1 (ha.ev mx hx) (ha.ev my hy)⟩
   ·cases h
  ·cases h
 ·rename_i c b hx hy
  obtain ⟨h1,h5⟩:=aq h
  simp only[Bool.and_eq_true]at h1
  obtain ⟨⟨hi,hb⟩,QM⟩:=h1
  have df:=Z.X7 _ hi
  subst hb
  clear h
  split at h5
  ·exact⟨_,h5,dJ hd fun h T ha=>(ad0 (nz:=nz) QM (by rw[hX.Z];exact df) (ha.ev mx hx) (ha.ev my hy)).1 ho⟩
  ·exact⟨_,h5,dJ hd fun h T ha=>(ad0 (nz:=nz) QM (by rw[hX.Z];exact df) (ha.ev mx hx) (ha.ev my hy)).2 ho⟩
  ·cases h5
 ·cases h
theorem alA {T:St}{ty:TypeId}{x:Operand}{kk:IntKind}{n:Int} (ho:o.op=.unOp .neg ty x) (hx:T.ev X x=.int kk n):dy X o T (.int kk (kk.wrap (-n))):=fun κ sv a w hs =>
 ⟨.int kk (kk.wrap (-n)),.int _ _,fun w' _=>by simp[execOp,ho,dQ hs hx,Op.unary,Op.intArith]⟩
def U7 (t:Nat) (op:UnOp) (k:Ef→Option R):I→Option R
 |.bool b=>match op with|.not=>k (vE t (.bool (!b)))|_=>none
 |.int kk n=>match op with|.neg=>k (vE t (.int kk (kk.wrap (-n))))|_=>none
 |_=>none
theorem agI {op:UnOp}{ty:TypeId}{x:Operand} (ho:o.op=.unOp op ty x) (hd:o.dst=some t) (h:U7 t op k (S.ev Z nt x)=some r):∃ e,k e=some r∧dA X Z nt o S e:=by
 have mx:x∈o.op.operands.toList:=by rw[ho];simp[Op.operands]
 unfold U7 at h
 split at h
 ·rename_i b hx
  split at h
  ·exact⟨_,h,dJ hd fun h T ha=>aoa ho (ha.ev mx hx)⟩
  ·cases h
 ·rename_i b hx
  split at h
  ·exact⟨_,h,dJ hd fun h T ha=>alA ho (ha.ev mx hx)⟩
  ·cases h
 ·cases h
def Ut (Z:aX) (e:Nat):Bool:=match Z.ik e with|some .u8=>true|_=>false
theorem aa4 {e:Nat} (h:Ut Z e=true):Z.ik e=some .u8:=by
 unfold Ut at h
 split at h
 ·assumption
 ·cases h
def UP (Z:aX) (t:Nat) (ty nz:TypeId) (k:Ef→Option R):I→Option R
 |.int _ n=>ao ((Z.ik ty).isSome) (match Z.ik nz with|some k2=>k (vE t (.int k2 (k2.wrap n)))|none=>none)
 |.sl (.int .u8) l=>ao (Z.Fx nz) (match nth Z.bL ty with
  |some r=>ao (Nat.beq r.k 3) (ao (!Nat.beq r.k 9) (ao (Ut Z r.el) (ao (!l.isEmpty) (ao (abt l) (k (vE t (.str ⟨(vq l).toArray⟩)))))))
  |none=>none)
 |_=>none
theorem agq (hX:At X Z nt) {ty nz:TypeId}{x:Operand} (ho:o.op=.convert ty nz x) (hd:o.dst=some t) (h:UP Z t ty nz k (S.ev Z nt x)=some r):∃ e,k e=some r∧dA X Z nt o S e:=by
 have mx:x∈o.op.operands.toList:=by rw[ho];simp[Op.operands]
 unfold UP at h
 split at h
 ·rename_i kk n hx
  obtain ⟨h1,h⟩:=aq h
  obtain ⟨k1,e1⟩:=Option.isSome_iff_exists.1 h1
  split at h
  ·rename_i k2 e2
   exact⟨_,h,dJ hd fun h T ha=>alk ho (by rw[hX.Z,Z.JV _ _ e1];rfl) (by rw[hX.Z];exact Z.JV _ _ e2) (ha.ev mx hx)⟩
  ·cases h
 ·rename_i l hx
  obtain ⟨h1,h⟩:=aq h
  split at h
  ·rename_i q hq
   obtain ⟨h2,h⟩:=aq h
   obtain ⟨h3,h⟩:=aq h
   obtain ⟨h4,h⟩:=aq h
   obtain ⟨h5,h⟩:=aq h
   obtain ⟨h6,h⟩:=aq h
   have cj:=Z.bG _ _ hq (by intro e;rw[e]at h3;cases h3)
   refine ⟨_,h,dJ hd fun h T ha=>anQ (l:=l) ho (by rw[hX.Z];exact dp cj h2) (by rw[hX.Z];exact Z.JV _ _ (aa4 h4)) (by rw[hX.Z];exact Z.tK _ h1) (ha.ev mx hx) (fun i _=>rfl) h6 (fun e=>by subst e;cases h5)⟩
  ·cases h
 ·cases h
def UQ (t i:Nat) (k:Ef→Option R):I→Option R
 |.bn l=>match nth l i with|some d=>k (vE t d)|none=>none
 |_=>none
theorem ags {i:Nat}{x:Operand} (ho:o.op=.extract x i) (hd:o.dst=some t) (h:UQ t i k (S.ev Z nt x)=some r):∃ e,k e=some r∧dA X Z nt o S e:=by
 have mx:x∈o.op.operands.toList:=by rw[ho];simp[Op.operands]
 unfold UQ at h
 split at h
 ·rename_i l hx
  split at h
  ·rename_i d hi
   exact⟨_,h,dJ hd fun h T ha=>anT ho (ha.ev mx hx) (jT h hi)⟩
  ·cases h
 ·cases h
end
end
end Go.Ab
namespace Go.Ab
open Go Go.RowKit
set_option linter.all false
set_option maxHeartbeats 1000000
noncomputable section
section
variable {R:Type}{X:Ctx}{Z:aX}{nt:Nat}{S:IS}{o:Oper}{r:R}{k:Ef→Option R}{t:Nat}
def rowOf (Z:aX) (ty:Nat) (k:dM→Option R):Option R:=match nth Z.bL ty with
 |some q=>bif Nat.beq q.k 9 then none else k q
 |none=>none
theorem cg {ty:Nat}{f:dM→Option R} (h:rowOf Z ty f=some r):∃ q,nth Z.bL ty=some q∧Nat.beq q.k 9=false∧f q=some r:=by
 unfold rowOf at h
 split at h
 ·rename_i q hq
  cases hb:Nat.beq q.k 9 with
  |true=>rw[hb]at h;cases h
  |false=>rw[hb]at h;exact⟨q,hq,hb,h⟩
 ·cases h
def Hb (q:dM):Bool:=Nat.beq q.k 1 || Nat.beq q.k 2
theorem abW {T:St}{ty:TypeId}{x:Operand}{f off kh:Nat}{l m:List D}{q:dM} (ho:o.op=.field ty x f) (hx:T.ev X x=.agg l) (hr:nth X.Z.bL ty=some q) (hk:Nat.beq q.k 1=true)
  (hf:nth q.fl f=some (off,kh,true)) (hm:takeN kh (k6 off l)=some m):dy X o T (.agg m):=fun κ sv a w hs=>by
 have cj:=X.Z.bG _ _ hr (by intro e;rw[e]at hk;cases hk)
 obtain ⟨i,dd,hi,XL,_,_,_,h4⟩:=du cj
 have jJ:=Nat.eq_of_beq_eq_true hk
 cases dd<;>try (simp only at h4;omega)
 rename_i fs
 obtain ⟨_,gT,mR⟩:=h4
 rw[eU,← gT,List.getElem?_map]at hf
 obtain ⟨rfl,hlen⟩:=oS hm
 rw[oy]at hlen ⊢
 obtain ⟨vs,he,hl⟩:=tk hs hx
 refine ⟨.agg ((vs.drop off).take kh).toArray,.agg _ _ ((hl.drop _).take _),fun w' _=>?_⟩
 cases nM:fs.toList[f]? with
 |none=>rw[nM]at hf;cases hf
 |some yf =>
  rw[nM]at hf
  simp only[Option.map_some,Option.some.injEq,Prod.mk.injEq]at hf
  obtain ⟨h1,h2,h3⟩:=hf
  have sM:=List.all_eq_true.1 mR yf (List.mem_of_getElem? nM)
  rw[Bool.and_eq_true]at sM
  obtain ⟨d2,hu2⟩:=Option.isSome_iff_exists.1 sM.2
  obtain ⟨i2,ek⟩:=Option.isSome_iff_exists.1 sM.1
  have MG:fs[f]?=some yf:=by simpa using nM
  have Dh:(isAgg yf.type).run X.Z.P w'=.ok true w':=by rw[nx hu2,h3]
  have kC:i2.size=kh:=by rw[← Ea ek,h2]
  have aaM:vs.toArray.extract off (off+kh)=((vs.drop off).take kh).toArray:=by simp[List.extract_eq_drop_take]
  simp[execOp,ho,he,Instr.field,run_underlying XL,MG,asAgg,part,Dh,h1,run_sizeOf ek,kC,aaM]
def US (Z:aX) (t ty f:Nat) (k:Ef→Option R):I→Option R
 |.agg l=>rowOf Z ty fun q=>ao (Nat.beq q.k 1) (match nth q.fl f with
  |some (off,kh,true)=>(match rE kh (sJ off l) with|some m=>k (vE t (.agg m))|none=>none)
  |some (off,_,false)=>(match nth l off with|some d=>k (vE t d)|none=>none)
  |none=>none)
 |_=>none
theorem agu (hX:At X Z nt) {ty f:Nat}{x:Operand} (ho:o.op=.field ty x f) (hd:o.dst=some t) (h:US Z t ty f k (S.ev Z nt x)=some r):∃ e,k e=some r∧dA X Z nt o S e:=by
 have mx:x∈o.op.operands.toList:=by rw[ho];simp[Op.operands]
 unfold US at h
 split at h
 ·rename_i l hx
  obtain ⟨q,hq,h9,h⟩:=cg h
  obtain ⟨hk,h⟩:=aq h
  split at h
  ·rename_i off kh hf
   split at h
   ·rename_i m hm
    exact⟨_,h,dJ hd fun h T ha=>abW ho (ha.ev mx hx) (by rw[hX.Z];exact hq) hk hf (by rw[oz];exact oT h hm)⟩
   ·cases h
  ·rename_i off kh hf
   split at h
   ·rename_i d hm
    exact⟨_,h,dJ hd fun h T ha=>agO ho (ha.ev mx hx) (by rw[hX.Z];exact hq) hk hf rfl (jT h hm)⟩
   ·cases h
  ·cases h
 ·cases h
def Ao (Z:aX) (nt:Nat) (S:IS):List (Nat×Operand)→List (Nat×List I)
 |[]=>[]
 |(i,x)::l=>(i,(S.ev Z nt x).cells)::Ao Z nt S l
def FH (Z:aX) (nt:Nat) (S:IS):List (Nat×Operand)→Bool
 |[]=>true
 |(_,x)::l=>pD (S.ev Z nt x).cells&&FH Z nt S l
theorem Aq {h:Nat→Nat}{T:St} (ha:Ag X Z nt S h T o):∀ {l:List (Nat×Operand)},(∀ p∈l,p.2∈o.op.operands.toList) →
  kH X T l=(Ao Z nt S l).map (fun p=>(p.1,I.al h p.2))∧pj X T l=FH Z nt S l
 |[],_=>⟨rfl,rfl⟩
 |(i,x)::l,hm=>by
  obtain ⟨h1,h2⟩:=Aq ha (l:=l) fun p hp=>hm p (List.mem_cons_of_mem _ hp)
  have h3:=ha.ev (hm (i,x) (List.mem_cons_self ..)) rfl
  simp only at h3
  simp only[kH,Ao,pj,FH,List.map_cons,h1,h2,h3,jj,ji,and_self]
def UK (Z:aX) (nt:Nat) (S:IS) (t ty:Nat) (ps:Array (Nat×Operand)) (k:Ef→Option R):Option R:=rowOf Z ty fun q=>ao (FH Z nt S ps.toList)
 (bif Nat.beq q.k 1 then (match Gz (YT q.fl) (q.zs.map zI) (Ao Z nt S ps.toList) with | some l => k (vE t (.agg l)) | none => none)
  else ao (Nat.beq q.k 2) (rowOf Z q.el fun q2=>match Gz (fun i=>some (i * q2.sz,q2.sz)) (q.zs.map zI) (Ao Z nt S ps.toList) with|some l=>k (vE t (.agg l))|none=>none))
theorem agl (hX:At X Z nt) {ty:Nat}{ps:Array (Nat×Operand)} (ho:o.op=.build ty ps) (hd:o.dst=some t) (h:UK Z nt S t ty ps k=some r):∃ e,k e=some r∧dA X Z nt o S e:=by
 have hm:∀ p∈ps.toList,p.2∈o.op.operands.toList:=fun p hp=>by rw[ho];simp only[Op.operands];exact List.mem_map.2 ⟨p,hp,rfl⟩
 unfold UK at h
 obtain ⟨q,hq,h9,h⟩:=cg h
 obtain ⟨hp,h⟩:=aq h
 cases hk:Nat.beq q.k 1 with
 |true =>
  rw[hk]at h
  simp only[cond_true]at h
  split at h
  ·rename_i l hl
   refine ⟨_,h,dJ hd fun h T ha=>?_⟩
   obtain ⟨h1,h2⟩:=Aq ha hm
   exact anO ho (by rw[hX.Z];exact hq) hk (h2.trans hp) (by rw[h1,← s6 h];exact GA h _ hl)
  ·cases h
 |false =>
  rw[hk]at h
  simp only[cond_false]at h
  obtain ⟨di,h⟩:=aq h
  obtain ⟨q2,eS,gS,h⟩:=cg h
  split at h
  ·rename_i l hl
   refine ⟨_,h,dJ hd fun h T ha=>?_⟩
   obtain ⟨h1,h2⟩:=Aq ha hm
   exact ali ho (by rw[hX.Z];exact hq) di rfl (by rw[hX.Z];exact eS) gS (h2.trans hp) (by rw[h1,← s6 h];exact GA h _ hl)
  ·cases h
def Q4 (q:dM) (t:Nat) (l:List I) (j:Nat) (k:Ef→Option R):Option R :=
 bif Hb q then (match rE q.sz (sJ j l) with|some m=>k (vE t (.agg m))|none=>none) else (match nth l j with|some d=>k (vE t d)|none=>none)
theorem FA {q:dM}{l:List I}{j:Nat} (h:Q4 q t l j k=some r):(Hb q=true∧∃ m,rE q.sz (sJ j l)=some m∧k (vE t (.agg m))=some r)∨(Hb q=false∧∃ d,nth l j=some d∧k (vE t d)=some r):=by
 unfold Q4 at h
 cases ha:Hb q with
 |true =>
  rw[ha]at h
  simp only[cond_true]at h
  split at h
  ·exact .inl ⟨rfl,_,by assumption,h⟩
  ·cases h
 |false =>
  rw[ha]at h
  simp only[cond_false]at h
  split at h
  ·exact .inr ⟨rfl,_,by assumption,h⟩
  ·cases h
def Oj (ty:T) (l:List (den ty)) (i:Nat):List I:=bj ty (l.getD i (bY ty))
def UW (Z:aX) (S:IS) (t ty:Nat) (k:Ef→Option R):I→Option R
 |.rp l j=>bif Z.Q0 ty then (match nth l j with|some d=>k (vE t d)|none=>none) else rowOf Z ty fun q=>Q4 q t l j k
 |.bx s g j=>bif Z.Q0 ty then (bif Nat.beq g (S.gen s) then (match S.own s with|.box l=>(match nth l j with|some d=>k (vE t d)|none=>none)|_=>none) else none) else rowOf Z ty fun q=>bif Nat.beq g (S.gen s) then (match S.own s with|.box l=>Q4 q t l j k|_=>none) else none
 |.op s g z i j=>rowOf Z ty fun q=>bif Nat.beq g (S.gen s) then (match S.own s with|.arr _ e l=>ao (Nat.beq z (sz e)) (ao (decide (i<l.length)) (Q4 q t (Oj e l i) j k))|_=>none) else none
 |_=>none
theorem nI {x:Operand}{s g j:Nat} (hx:S.ev Z nt x=.bx s g j):s∈gN (S.ev Z nt x):=by rw[hx];simp[gN]
theorem eO {x:Operand}{s g:Nat} (hx:S.ev Z nt x=.os s g):s∈gN (S.ev Z nt x):=by rw[hx];simp[gN]
theorem uP {x:Operand}{s g z i j:Nat} (hx:S.ev Z nt x=.op s g z i j):s∈gN (S.ev Z nt x):=by rw[hx];simp[gN]
theorem agy (hX:At X Z nt) {ty:Nat}{x:Operand} (ho:o.op=.load ty x) (hd:o.dst=some t) (h:UW Z S t ty k (S.ev Z nt x)=some r):∃ e,k e=some r∧dA X Z nt o S e:=by
 have mx:x∈o.op.operands.toList:=by rw[ho];simp[Op.operands]
 have dD:lvl o=2:=by simp[lvl,ho]
 have dS:lvl o≠0:=by rw[dD];simp
 unfold UW at h
 split at h
 ·rename_i l j hx
  cases hF:Z.Q0 ty with
  |true =>
   rw[hF]at h
   simp only[cond_true]at h
   obtain ⟨td,hu,ha0⟩:=Z.M9 _ hF
   split at h
   ·rename_i d hm
    exact⟨_,h,dJ hd fun h T ha=>alu ho (ha.ev mx hx) (by rw[hX.Z];exact hu) (by rw[hX.Z];exact ha0) (jT h hm)⟩
   ·cases h
  |false =>
  rw[hF]at h
  simp only[cond_false]at h
  obtain ⟨q,hq,h9,h⟩:=cg h
  rcases FA h with ⟨hk,m,hm,h⟩|⟨hk,d,hm,h⟩
  ·exact⟨_,h,dJ hd fun h T ha=>als ho (ha.ev mx hx) (by rw[hX.Z];exact hq) hk h9 (by rw[oz];exact oT h hm)⟩
  ·exact⟨_,h,dJ hd fun h T ha=>an3 ho (ha.ev mx hx) (by rw[hX.Z];exact hq) hk h9 (jT h hm)⟩
 ·rename_i s g j hx
  cases hF:Z.Q0 ty with
  |true =>
   rw[hF]at h
   simp only[cond_true]at h
   obtain ⟨td,hu,ha0⟩:=Z.M9 _ hF
   cases hg:Nat.beq g (S.gen s) with
   |false=>rw[hg]at h;cases h
   |true =>
   have hg:=Nat.eq_of_beq_eq_true hg
   subst hg
   simp only[Nat.beq_refl,cond_true]at h
   split at h
   ·rename_i l aF
    have hp:=nI hx
    split at h
    ·rename_i d hm
     exact⟨_,h,dJ hd fun h T ha=>alq ho (ha.ev mx hx) (by rw[hX.Z];exact hu) (by rw[hX.Z];exact ha0) (ha.γ dS mx hp) ((ha.σ dD mx hp).trans (by rw[aF];rfl)) (jT h hm)⟩
    ·cases h
   ·cases h
  |false =>
  rw[hF]at h
  simp only[cond_false]at h
  obtain ⟨q,hq,h9,h⟩:=cg h
  cases hg:Nat.beq g (S.gen s) with
  |false=>rw[hg]at h;cases h
  |true =>
  have hg:=Nat.eq_of_beq_eq_true hg
  subst hg
  simp only[Nat.beq_refl,cond_true]at h
  split at h
  ·rename_i l aF
   have hp:=nI hx
   rcases FA h with ⟨hk,m,hm,h⟩|⟨hk,d,hm,h⟩
   ·exact⟨_,h,dJ hd fun h T ha=>alp ho (ha.ev mx hx) (by rw[hX.Z];exact hq) hk h9 (ha.γ dS mx hp) ((ha.σ dD mx hp).trans (by rw[aF];rfl)) (by rw[oz];exact oT h hm)⟩
   ·exact⟨_,h,dJ hd fun h T ha=>an1 ho (ha.ev mx hx) (by rw[hX.Z];exact hq) hk h9 (ha.γ dS mx hp) ((ha.σ dD mx hp).trans (by rw[aF];rfl)) (jT h hm)⟩
  ·cases h
 ·rename_i s g z i j hx
  obtain ⟨q,hq,h9,h⟩:=cg h
  cases hg:Nat.beq g (S.gen s) with
  |false=>rw[hg]at h;cases h
  |true =>
  have hg:=Nat.eq_of_beq_eq_true hg
  subst hg
  simp only[Nat.beq_refl,cond_true]at h
  split at h
  ·rename_i E e l aF
   obtain ⟨iK,h2⟩:=aq h
   obtain ⟨Im,h3⟩:=aq h2
   clear h h2
   have hz:=Nat.eq_of_beq_eq_true iK
   clear iK
   subst hz
   have hi:=of_decide_eq_true Im
   have h:=h3
   clear h3
   have hp:=uP hx
   have er:∀ h:Nat→Nat,bN e (l.getD i (bY e))=I.al h (Oj e l i):=fun h=>(bd h e _).symm
   have tJ:∀ h T,Ag X Z nt S h T o→T.σ s=.arr E (sz e) l.length (fun i=>bN e (l.getD i (bY e))):=fun h T ha=>(ha.σ dD mx hp).trans (by rw[aF];rfl)
   rcases FA h with ⟨hk,m,hm,h⟩|⟨hk,d,hm,h⟩
   ·exact⟨_,h,dJ hd fun h T ha=>alr ho (ha.ev mx hx) (by rw[hX.Z];exact hq) hk h9 (ha.γ dS mx hp) (tJ h T ha) hi (by rw[er h,oz];exact oT h hm)⟩
   ·exact⟨_,h,dJ hd fun h T ha=>an2 ho (ha.ev mx hx) (by rw[hX.Z];exact hq) hk h9 (ha.γ dS mx hp) (tJ h T ha) hi (by rw[er h];exact jT h hm)⟩
  ·cases h
 ·cases h
end
end
end Go.Ab
namespace Go.Ab
open Go Go.RowKit
set_option linter.all false
set_option maxHeartbeats 1000000
noncomputable section
section
variable {R:Type}{X:Ctx}{Z:aX}{nt:Nat}{S:IS}{o:Oper}{r:R}{k:Ef→Option R}{t:Nat}
def live (S:IS) (s g:Nat) (x:Option R):Option R:=bif Nat.beq g (S.gen s) then x else none
theorem cX {s g:Nat}{x:Option R} (h:live S s g x=some r):g=S.gen s∧x=some r:=by
 unfold live at h
 cases hg:Nat.beq g (S.gen s) with
 |false=>rw[hg]at h;cases h
 |true=>rw[hg]at h;exact⟨Nat.eq_of_beq_eq_true hg,h⟩
def UR (Z:aX) (S:IS) (t ty f:Nat) (k:Ef→Option R) (d:I):Option R:=rowOf Z ty fun q=>ao (Nat.beq q.k 1) (match nth q.fl f with
 |some (off,kh,_)=>bif Nat.beq kh 0 then none else (match d with
  |.rp l j=>k (vE t (.rp l (j+off)))
  |.bx s g j=>live S s g (k (vE t (.bx s g (j+off))))
  |.op s g z i j=>live S s g (k (vE t (.op s g z i (j+off))))
  |_=>none)
 |none=>none)
theorem agt (hX:At X Z nt) {ty f:Nat}{x:Operand} (ho:o.op=.fieldAddr ty x f) (hd:o.dst=some t) (h:UR Z S t ty f k (S.ev Z nt x)=some r):∃ e,k e=some r∧dA X Z nt o S e:=by
 have mx:x∈o.op.operands.toList:=by rw[ho];simp[Op.operands]
 have dS:lvl o≠0:=by simp[lvl,ho]
 unfold UR at h
 obtain ⟨q,hq,h9,h⟩:=cg h
 obtain ⟨hk,h⟩:=aq h
 split at h
 ·rename_i off kh ag hf
  cases hz:Nat.beq kh 0 with
  |true=>rw[hz]at h;cases h
  |false =>
   rw[hz]at h
   simp only[cond_false]at h
   split at h
   ·rename_i l j hx
    exact⟨_,h,dJ hd fun h T ha=>anW ho (ha.ev mx hx) (by rw[hX.Z];exact hq) hk hf hz⟩
   ·rename_i s g j hx
    replace h:=cX h
    obtain ⟨rfl,h⟩:=h
    exact⟨_,h,dJ hd fun h T ha=>anU ho (ha.ev mx hx) (ha.γ dS mx (nI hx)) (by rw[hX.Z];exact hq) hk hf hz⟩
   ·rename_i s g z i j hx
    replace h:=cX h
    obtain ⟨rfl,h⟩:=h
    exact⟨_,h,dJ hd fun h T ha=>anV ho (ha.ev mx hx) (ha.γ dS mx (uP hx)) (by rw[hX.Z];exact hq) hk hf hz⟩
   ·cases h
 ·cases h
def xq (i:Int) (k:Nat→Option R):Nat→Nat→Option R
 |0,_=>none
 |n+1,a=>bif i == (a:Int) then k a else xq i k n (a+1)
theorem tp {i:Int}{k:Nat→Option R}:∀ {n a:Nat},xq i k n a=some r→∃ j:Nat,i=(j:Int)∧j<a+n∧k j=some r
 |0,a,h=>by cases h
 |n+1,a,h=>by
  unfold xq at h
  cases hb:i == (a:Int) with
  |true=>rw[hb]at h;exact⟨a,by simpa using hb,by omega,h⟩
  |false =>
   rw[hb]at h
   obtain ⟨j,h1,h2,h3⟩:=tp h
   exact⟨j,h1,by omega,h3⟩
theorem alm {T:St}{ty:TypeId}{x y:Operand}{r q:dM}{s g z i j:Nat}{k:Int} (ho:o.op=.indexAddr ty x y) (hx:T.ev X x=.op s g z i j) (hg:T.γ s=g) (hy:T.ev X y=.int .i64 k) (h0:0≤k)
  (hr:nth X.Z.bL ty=some r) (hk:Nat.beq r.k 2=true) (h1:k<r.ln) (hq:nth X.Z.bL r.el=some q) (dF:Nat.beq q.k 9=false):dy X o T (.op s g z i (j+k.toNat * q.sz)):=fun κ sv a w hs=>by
 have cj:=X.Z.bG _ _ hr (by intro e;rw[e]at hk;cases hk)
 have dx:=X.Z.bG _ _ hq (by intro e;rw[e]at dF;cases dF)
 have eB:=pk (hy ▸ hs.ev y)
 obtain ⟨b,off,n,cap,e1,e2⟩:=Hh hs hx hg
 exact⟨.pointer (some ⟨b,off+(i * z+(j+k.toNat * q.sz)),none⟩),.op _ _ _ _ _ _ (by omega) (fun _=>⟨b,off,n,cap,e1,rfl⟩) rfl,fun w' _=>by
  simp[execOp,ho,e2,eB,Instr.indexAt,asIntOf,run_underlying (rI cj hk),Instr.sureAddr,h0,h1,fE dx,addr_add,Nat.add_assoc]⟩
def UT (Z:aX) (S:IS) (t ty:Nat) (k:Ef→Option R) (d y:I):Option R:=rowOf Z ty fun q=>rowOf Z q.el fun q2=>match y with
 |.int .i64 i=>(match d with
  |.sl e l=>ao (Nat.beq q.k 3) (ao (Nat.beq q2.sz (sz e)) (ao (decide (0≤i)&&decide (i<l.length)) (k (vE t (.rp (Oj e l i.toNat) 0)))))
  |.os s g=>live S s g (match S.own s with
   |.arr _ e l=>ao (Nat.beq q.k 3) (ao (Nat.beq q2.sz (sz e)) (ao (decide (0≤i)&&decide (i<l.length)) (k (vE t (.op s g (sz e) i.toNat 0)))))
   |_=>none)
  |.bx s g j=>live S s g (ao (Nat.beq q.k 2) (xq i (fun a=>k (vE t (.bx s g (j+a * q2.sz)))) q.ln 0))
  |.rp l j=>ao (Nat.beq q.k 2) (xq i (fun a=>k (vE t (.rp l (j+a * q2.sz)))) q.ln 0)
  |.op s g z n j=>live S s g (ao (Nat.beq q.k 2) (xq i (fun a=>k (vE t (.op s g z n (j+a * q2.sz)))) q.ln 0))
  |_=>none)
 |_=>none
theorem agv (hX:At X Z nt) {ty:Nat}{x y:Operand} (ho:o.op=.indexAddr ty x y) (hd:o.dst=some t) (h:UT Z S t ty k (S.ev Z nt x) (S.ev Z nt y)=some r):∃ e,k e=some r∧dA X Z nt o S e:=by
 have mx:x∈o.op.operands.toList:=by rw[ho];simp[Op.operands]
 have my:y∈o.op.operands.toList:=by rw[ho];simp[Op.operands]
 have dD:lvl o=2:=by simp[lvl,ho]
 have dS:lvl o≠0:=by rw[dD];simp
 unfold UT at h
 obtain ⟨q,hq,h9,h⟩:=cg h
 obtain ⟨q2,eS,gS,h⟩:=cg h
 have fy:nth X.Z.bL ty=some q:=by rw[hX.Z];exact hq
 have fU:nth X.Z.bL q.el=some q2:=by rw[hX.Z];exact eS
 split at h
 ·rename_i i hy
  split at h
  ·rename_i e l hx
   obtain ⟨h3,h⟩:=aq h
   obtain ⟨hz,h⟩:=aq h
   obtain ⟨hi,h⟩:=aq h
   simp only[Bool.and_eq_true,decide_eq_true_eq]at hi
   refine ⟨_,h,dJ hd fun h T ha=>?_⟩
   have:=ase ho (ha.ev mx hx) (ha.ev my hy) hi.1 (by simpa using hi.2) fy h3 fU gS (Nat.eq_of_beq_eq_true hz)
   simp only[I.toD,Oj,bd]
   exact this
  ·rename_i s g hx
   replace h:=cX h
   obtain ⟨rfl,h⟩:=h
   split at h
   ·rename_i E e l aF
    obtain ⟨h3,h⟩:=aq h
    obtain ⟨hz,h⟩:=aq h
    obtain ⟨hi,h⟩:=aq h
    simp only[Bool.and_eq_true,decide_eq_true_eq]at hi
    exact⟨_,h,dJ hd fun h T ha=>anY ho (ha.ev mx hx) (ha.γ dS mx (eO hx)) ((ha.σ dD mx (eO hx)).trans (by rw[aF];rfl)) (ha.ev my hy) hi.1 (by simpa using hi.2) fy h3 fU gS (Nat.eq_of_beq_eq_true hz)⟩
   ·cases h
  ·rename_i s g j hx
   replace h:=cX h
   obtain ⟨rfl,h⟩:=h
   obtain ⟨h2,h⟩:=aq h
   obtain ⟨a,rfl,ha,h⟩:=tp h
   exact⟨_,h,dJ hd fun h T hT=>by
    have:=anX ho (hT.ev mx hx) (hT.γ dS mx (nI hx)) (hT.ev my hy) (by omega) fy h2 (by omega) fU gS
    simpa[I.toD] using this⟩
  ·rename_i l j hx
   obtain ⟨h2,h⟩:=aq h
   obtain ⟨a,rfl,ha,h⟩:=tp h
   exact⟨_,h,dJ hd fun h T hT=>by
    have:=anZ ho (hT.ev mx hx) (hT.ev my hy) (by omega) fy h2 (by omega) fU gS
    simpa[I.toD] using this⟩
  ·rename_i s g z n j hx
   replace h:=cX h
   obtain ⟨rfl,h⟩:=h
   obtain ⟨h2,h⟩:=aq h
   obtain ⟨a,rfl,ha,h⟩:=tp h
   exact⟨_,h,dJ hd fun h T hT=>by
    have:=alm ho (hT.ev mx hx) (hT.γ dS mx (uP hx)) (hT.ev my hy) (by omega) fy h2 (by omega) fU gS
    simpa[I.toD] using this⟩
  ·cases h
 ·cases h
theorem alo {T:St}{ty:TypeId}{x y:Operand}{q q2:dM}{l:List D}{d:D}{a:Int} (ho:o.op=.index ty x y) (hx:T.ev X x=.agg l) (hy:T.ev X y=.int .i64 a) (h0:0≤a)
  (hr:nth X.Z.bL ty=some q) (hk:Nat.beq q.k 2=true) (h1:a<q.ln) (hq:nth X.Z.bL q.el=some q2) (h9:Nat.beq q2.k 9=false) (XV:(Nat.beq q2.k 1 || Nat.beq q2.k 2)=false) (hm:nth l (a.toNat * q2.sz)=some d):dy X o T d:=fun κ sv ac w hs=>by
 have cj:=X.Z.bG _ _ hr (by intro e;rw[e]at hk;cases hk)
 have dx:=X.Z.bG _ _ hq (by intro e;rw[e]at h9;cases h9)
 have eB:=pk (hy ▸ hs.ev y)
 obtain ⟨vs,e1,hl⟩:=tk hs hx
 obtain ⟨iq,dq,jA,uH,kB,_⟩:=du dx
 rw[eU]at hm
 obtain ⟨v,hv,cq⟩:=hl.get hm
 refine ⟨v,cq,fun w' _=>?_⟩
 have Dh:(isAgg q.el).run X.Z.P w'=.ok false w':=by rw[nx uH,Bf dx,XV]
 simp[execOp,ho,e1,eB,Instr.index,asIntOf,run_underlying (rI cj hk),h0,h1,fE dx,part,Dh,hv]
def mH (s:ByteArray) (i:Nat) (k:Int→Option R):Option R:=match s[i]? with
 |some b=>k b.toNat
 |none=>none
theorem Wo {s:ByteArray}{i:Nat}{k:Int→Option R} (h:mH s i k=some r):∃ b:UInt8,s[i]?=some b∧k b.toNat=some r:=by
 unfold mH at h
 split at h
 ·exact⟨_,by assumption,h⟩
 ·cases h
def UU (Z:aX) (t ty:Nat) (k:Ef→Option R) (d y:I):Option R:=match d,y with
 |.agg l,.int .i64 i=>rowOf Z ty fun q=>rowOf Z q.el fun q2=>ao (Nat.beq q.k 2) (xq i (fun a=>Q4 q2 t l (a * q2.sz) k) q.ln 0)
 |.str s,.int .i64 i=>ao (Z.Fx ty) (ao (decide (0≤i)) (mH s i.toNat fun b=>k (vE t (.int .u8 b))))
 |_,_=>none
theorem agw (hX:At X Z nt) {ty:Nat}{x y:Operand} (ho:o.op=.index ty x y) (hd:o.dst=some t) (h:UU Z t ty k (S.ev Z nt x) (S.ev Z nt y)=some r):∃ e,k e=some r∧dA X Z nt o S e:=by
 have mx:x∈o.op.operands.toList:=by rw[ho];simp[Op.operands]
 have my:y∈o.op.operands.toList:=by rw[ho];simp[Op.operands]
 unfold UU at h
 split at h
 ·rename_i l i hx hy
  obtain ⟨q,hq,h9,h⟩:=cg h
  obtain ⟨q2,eS,gS,h⟩:=cg h
  have fy:nth X.Z.bL ty=some q:=by rw[hX.Z];exact hq
  have fU:nth X.Z.bL q.el=some q2:=by rw[hX.Z];exact eS
  obtain ⟨h2,h⟩:=aq h
  obtain ⟨a,rfl,ha,h⟩:=tp h
  rcases FA h with ⟨hk,m,hm,h⟩|⟨hk,d,hm,h⟩
  ·exact⟨_,h,dJ hd fun h T hT=>an0 ho (hT.ev mx hx) (hT.ev my hy) (by omega) fy h2 (by omega) fU hk (by rw[oz];simpa using oT h hm)⟩
  ·exact⟨_,h,dJ hd fun h T hT=>alo ho (hT.ev mx hx) (hT.ev my hy) (by omega) fy h2 (by omega) fU gS hk (by simpa using jT h hm)⟩
 ·rename_i s i hx hy
  obtain ⟨h1,h⟩:=aq h
  obtain ⟨h2,h⟩:=aq h
  obtain ⟨b,hb,h⟩:=Wo h
  exact⟨_,h,dJ hd fun h T hT=>aln ho (hT.ev mx hx) (hT.ev my hy) (by rw[hX.Z];exact Z.tK _ h1) (of_decide_eq_true h2) hb⟩
 ·cases h
def U0 (S:IS) (t:Nat) (k:Ef→Option R):I→Option R
 |.bx s g j=>live S s g (k (vE t (.bx s g j)))
 |.rp l j=>k (vE t (.rp l j))
 |.op s g z i j=>live S s g (k (vE t (.op s g z i j)))
 |_=>none
theorem agC {x:Operand} (ho:o.op=.nilCheck x) (hd:o.dst=some t) (h:U0 S t k (S.ev Z nt x)=some r):∃ e,k e=some r∧dA X Z nt o S e:=by
 have mx:x∈o.op.operands.toList:=by rw[ho];simp[Op.operands]
 have dS:lvl o≠0:=by simp[lvl,ho]
 unfold U0 at h
 split at h
 ·rename_i s g j hx
  replace h:=cX h
  obtain ⟨rfl,h⟩:=h
  exact⟨_,h,dJ hd fun h T ha=>an7 ho (ha.ev mx hx) (ha.γ dS mx (nI hx))⟩
 ·rename_i l j hx
  exact⟨_,h,dJ hd fun h T ha=>alz ho (ha.ev mx hx)⟩
 ·rename_i s g z i j hx
  replace h:=cX h
  obtain ⟨rfl,h⟩:=h
  exact⟨_,h,dJ hd fun h T ha=>aly ho (ha.ev mx hx) (ha.γ dS mx (uP hx))⟩
 ·cases h
def J9 (Z:aX) (S:IS) (t:Nat) (ts:Array TypeId) (k:Ef→Option R) (d:I):Option R:=match ts[0]? with
 |some ty=>bif Z.Fx ty then (match d with|.str b=>k (vE t (.int .i64 b.size))|_=>none) else rowOf Z ty fun q=>ao (Nat.beq q.k 3) (match d with
  |.sl _ l=>k (vE t (.int .i64 l.length))
  |.nil=>k (vE t (.int .i64 0))
  |.os s g=>live S s g (match S.own s with
   |.arr _ _ l=>k (vE t (.int .i64 l.length))
   |_=>none)
  |_=>none)
 |none=>none
theorem abC (hX:At X Z nt) {x:Operand}{ts:Array TypeId} (ho:o.op=.call { callee:=.builtin .len,args:=#[x],argTypes:=ts }) (hd:o.dst=some t) (h:J9 Z S t ts k (S.ev Z nt x)=some r):∃ e,k e=some r∧dA X Z nt o S e:=by
 have mx:x∈o.op.operands.toList:=by rw[ho];simp[Op.operands,Call.operands]
 have dD:lvl o=2:=by simp[lvl,ho]
 have dS:lvl o≠0:=by rw[dD];simp
 unfold J9 at h
 split at h
 ·rename_i ty hT
  cases hS:Z.Fx ty with
  |true =>
   rw[hS]at h
   simp only[cond_true]at h
   split at h
   ·rename_i b hx
    exact⟨_,h,dJ hd fun h T ha=>alw ho hT (ha.ev mx hx) (by rw[hX.Z];exact Z.tK _ hS)⟩
   ·cases h
  |false =>
  rw[hS]at h
  simp only[cond_false]at h
  obtain ⟨q,hq,h9,h⟩:=cg h
  obtain ⟨h3,h⟩:=aq h
  have fy:nth X.Z.bL ty=some q:=by rw[hX.Z];exact hq
  split at h
  ·rename_i e l hx
   exact⟨_,h,dJ hd fun h T ha=>an4 ho hT (ha.ev mx hx) fy h3⟩
  ·rename_i hx
   exact⟨_,h,dJ hd fun h T ha=>alv ho hT (ha.ev mx hx) fy h3⟩
  ·rename_i s g hx
   replace h:=cX h
   obtain ⟨rfl,h⟩:=h
   split at h
   ·rename_i E e l aF
    exact⟨_,h,dJ hd fun h T ha=>alx ho hT (ha.ev mx hx) (ha.γ dS mx (eO hx)) ((ha.σ dD mx (eO hx)).trans (by rw[aF];rfl)) fy h3⟩
   ·cases h
  ·cases h
 ·cases h
def Ak (t:Nat) (mx:Bool) (k:Ef→Option R):I→I→Option R
 |.int .i64 a,.int .i64 b=>bif mx then k (vE t (.int .i64 (max a b))) else k (vE t (.int .i64 (min a b)))
 |_,_=>none
theorem abF {x y:Operand}{ts:Array TypeId} (ho:o.op=.call { callee:=.builtin .min,args:=#[x,y],argTypes:=ts }) (hd:o.dst=some t) (h:Ak t false k (S.ev Z nt x) (S.ev Z nt y)=some r):∃ e,k e=some r∧dA X Z nt o S e:=by
 have mx:x∈o.op.operands.toList:=by rw[ho];simp[Op.operands,Call.operands]
 have my:y∈o.op.operands.toList:=by rw[ho];simp[Op.operands,Call.operands]
 unfold Ak at h
 split at h
 ·rename_i a b hx hy
  exact⟨_,h,dJ hd fun h T ha=>an6 ho (ha.ev mx hx) (ha.ev my hy)⟩
 ·cases h
theorem abE {x y:Operand}{ts:Array TypeId} (ho:o.op=.call { callee:=.builtin .max,args:=#[x,y],argTypes:=ts }) (hd:o.dst=some t) (h:Ak t true k (S.ev Z nt x) (S.ev Z nt y)=some r):∃ e,k e=some r∧dA X Z nt o S e:=by
 have mx:x∈o.op.operands.toList:=by rw[ho];simp[Op.operands,Call.operands]
 have my:y∈o.op.operands.toList:=by rw[ho];simp[Op.operands,Call.operands]
 unfold Ak at h
 split at h
 ·rename_i a b hx hy
  exact⟨_,h,dJ hd fun h T ha=>an5 ho (ha.ev mx hx) (ha.ev my hy)⟩
 ·cases h
theorem lL {h:Nat→Nat}{T:St} (ha:Ag X Z nt S h T o) {l:List Operand} (hm:∀ x∈l,x∈o.op.operands.toList):l.map (T.ev X)=I.al h (l.map (S.ev Z nt)):=by
 rw[ef,List.map_map]
 exact List.map_congr_left fun x hx=>ha.ev (hm x hx) rfl
def UY (Z:aX) (nt:Nat) (S:IS) (t:Nat) (fn:Fn) (first cap:Array Operand) (k:Ef→Option R):Option R:=match fn with
 |.func f=>bif Nat.beq first.toList.length 0 then k (vE t (.fn f (cap.toList.map (S.ev Z nt)))) else ao (Nat.beq cap.toList.length 0) (k (vE t (.mf f (first.toList.map (S.ev Z nt)))))
 |_=>none
theorem Gw {α:Type}{a:Array α} (h:Nat.beq a.toList.length 0=true):a=#[]:=by
 have:=Nat.eq_of_beq_eq_true h
 apply Array.eq_empty_of_size_eq_zero;simpa using this
theorem agA {fn:Fn}{first cap:Array Operand} (ho:o.op=.makeFunc fn first cap) (hd:o.dst=some t) (h:UY Z nt S t fn first cap k=some r):∃ e,k e=some r∧dA X Z nt o S e:=by
 unfold UY at h
 split at h
 ·rename_i f
  cases hb:Nat.beq first.toList.length 0 with
  |true =>
   rw[hb]at h
   have e:=Gw hb
   subst e
   refine ⟨_,h,dJ hd fun h T ha=>?_⟩
   have:=asd (X:=X) (S:=T) ho
   rw[lL ha (fun x hx=>by rw[ho];simpa[Op.operands] using hx)]at this
   exact this
  |false =>
   rw[hb]at h
   obtain ⟨hb,h⟩:=aq h
   have e:=Gw hb
   subst e
   refine ⟨_,h,dJ hd fun h T ha=>?_⟩
   have:=asf (X:=X) (S:=T) ho
   rw[lL ha (fun x hx=>by rw[ho];simpa[Op.operands] using hx)]at this
   exact this
 ·cases h
def GB (S:IS) (s:Nat) (l:List I):Ef:=⟨some s,.bx s (S.gen s+1) 0,some (s,S.gen s+1),some (s,.box l)⟩
theorem HO {h:Nat→Nat}{T:St}{s:Nat}{l:List I} (dk:T.γ s=h s+S.gen s):T.boxed s (I.al h l)=T.app (GB S s l).wr ((GB S s l).vl h):=by
 unfold St.boxed St.app GB Ef.wr Ef.vl
 rw[dk];rfl
def UM (S:IS) (t:Nat) (k:Ef→Option R) (d:I):Option R:=ao (pD d.cells&&UA (Ae d.cells) none) (k (GB S t d.cells))
theorem agn {ty:Nat}{x:Operand} (ho:o.op=.box ty x) (hd:o.dst=some t) (h:UM S t k (S.ev Z nt x)=some r):∃ e,k e=some r∧dA X Z nt o S e:=by
 have mx:x∈o.op.operands.toList:=by rw[ho];simp[Op.operands]
 unfold UM at h
 obtain ⟨hc,h⟩:=aq h
 refine ⟨_,h,fun h T ha hg=>?_⟩
 rw[← HO (hg _ rfl),← jj]
 simp only[Bool.and_eq_true]at hc
 exact eK (anC ho hd (ha.ev mx rfl) (by rw[jj,ji];exact hc.1) (by rw[jj,sW];have:=Hk hc.2;cases hm:Ae (S.ev Z nt x).cells with|none=>rfl|some T0=>exact absurd (this T0 hm) (by simp)))
def UI (Z:aX) (S:IS) (t ty:Nat) (k:Ef→Option R):Option R:=rowOf Z ty fun q=>k (GB S t (q.zs.map zI))
theorem agj (hX:At X Z nt) {ty:Nat} (ho:o.op=.alloc ty) (hd:o.dst=some t) (h:UI Z S t ty k=some r):∃ e,k e=some r∧dA X Z nt o S e:=by
 unfold UI at h
 obtain ⟨q,hq,h9,h⟩:=cg h
 refine ⟨_,h,fun h T ha hg=>?_⟩
 rw[← HO (hg _ rfl),s6]
 exact eK (agb ho hd (by rw[hX.Z];exact hq) h9)
theorem eE (h:Nat→Nat):∀ {l m:List I},bg l m→vk (I.al h l) (I.al h m)
 |_,_,.nil=>trivial
 |_,_,.cons (.same d) h2=>⟨.inl rfl,eE h h2⟩
 |_,_,.cons (.ft t l) h2=>⟨(by cases l with|nil=>exact .inr (.inl ⟨rfl,sz t,fun i=>bN t (([]:List (den t)).getD i (bY t)),rfl⟩)|cons=>exact .inl rfl),eE h h2⟩
 |_,_,.cons (.nil t) h2=>⟨.inr (.inl ⟨rfl,sz t,fun i=>bN t (([]:List (den t)).getD i (bY t)),rfl⟩),eE h h2⟩
 |_,_,.cons (.nK g (l:=l) (m:=m) h1) h2=>⟨.inr (.inr ⟨g,_,_,rfl,rfl,fun κ γ sv v hr=>by
   have h3:=eE h h1
   cases hr with
   |fn _ _ vs hl =>
    cases hl with
    |cons _ v _ vs hp hl =>
     cases hl
     refine .fn _ _ _ (.cons _ _ _ _ ?_ .nil)
     cases hp with
     |rp _ _ b off vs hc hv hk=>exact .rp _ _ b off vs (uM h3 hc) (iS h3 hv) hk⟩),eE h h2⟩
def po (s:Nat) (ow:aK):Ef:=⟨none,.undef,none,some (s,ow)⟩
def U6 (Z:aX) (S:IS) (ty:Nat) (k:Ef→Option R) (p d:I):Option R:=rowOf Z ty fun q=>ao (pD d.cells) (ao (Nat.beq d.cells.length q.sz) (match p with
 |.bx s g j=>live S s g (match S.own s with
  |.box l=>(match eZ l j d.cells with|some l'=>ao (UA (Ae l') (Ae l)) (k (po s (.box l')))|none=>none)
  |_=>none)
 |.op s g z i j=>live S s g (match S.own s with
  |.arr E e l=>ao (Nat.beq z (sz e)) (ao (decide (i<l.length)) (match eZ (Oj e l i) j d.cells with
   |some l'=>(match ew e l' with|some x=>k (po s (.arr E e (l.set i x)))|none=>k (po s (.vp E e l i l')))
   |none=>none))
  |_=>none)
 |_=>none))
theorem agH (hX:At X Z nt) {ty:Nat}{x y:Operand} (ho:o.op=.store ty x y) (hd:o.dst=none) (h:U6 Z S ty k (S.ev Z nt x) (S.ev Z nt y)=some r):∃ e,k e=some r∧dA X Z nt o S e:=by
 have mx:x∈o.op.operands.toList:=by rw[ho];simp[Op.operands]
 have my:y∈o.op.operands.toList:=by rw[ho];simp[Op.operands]
 have dD:lvl o=2:=by simp[lvl,ho]
 have dS:lvl o≠0:=by rw[dD];simp
 unfold U6 at h
 obtain ⟨q,hq,h9,h⟩:=cg h
 obtain ⟨hc,h⟩:=aq h
 obtain ⟨kC,h⟩:=aq h
 have fy:nth X.Z.bL ty=some q:=by rw[hX.Z];exact hq
 have kC:=Nat.eq_of_beq_eq_true kC
 have lB:∀ h:Nat→Nat,aY ((S.ev Z nt y).toD h).cells=true:=fun h=>by rw[jj,ji];exact hc
 have od:∀ h:Nat→Nat,((S.ev Z nt y).toD h).cells.length=q.sz:=fun h=>by rw[jj,fc];exact kC
 split at h
 ·rename_i s g j hx
  replace h:=cX h
  obtain ⟨rfl,h⟩:=h
  split at h
  ·rename_i l aF
   split at h
   ·rename_i l' hl
    obtain ⟨hm,h⟩:=aq h
    refine ⟨_,h,fun h T ha hg=>?_⟩
    have:=anG ho (ha.ev mx hx) (ha.γ dS mx (nI hx)) ((ha.σ dD mx (nI hx)).trans (by rw[aF];rfl)) (ha.ev my rfl) (lB h) fy h9 (od h) (by rw[jj];exact nh h hl) (by rw[sW,sW];exact Hk hm) hd
    exact eK this
   ·cases h
  ·cases h
 ·rename_i s g z i j hx
  replace h:=cX h
  obtain ⟨rfl,h⟩:=h
  split at h
  ·rename_i E e l aF
   obtain ⟨iK,h2⟩:=aq h
   obtain ⟨Im,h3⟩:=aq h2
   clear h h2
   have hz:=Nat.eq_of_beq_eq_true iK
   clear iK
   subst hz
   have hi:=of_decide_eq_true Im
   split at h3
   ·rename_i l' hl
    split at h3
    ·rename_i v hv
     refine ⟨_,h3,fun h T ha hg=>?_⟩
     have tJ:T.σ s=.arr E (sz e) l.length (fun i=>bN e (l.getD i (bY e))):=(ha.σ dD mx (uP hx)).trans (by rw[aF];rfl)
     have:=adR ho (ha.ev mx hx) (ha.γ dS mx (uP hx)) tJ hi (ha.ev my rfl) (lB h) fy h9 (od h) (k:=I.al h l') (by rw[jj,← bd h];exact nh h hl) hd
     refine sa.wk (eK this) ?_
     have hw:=HF (X:=X) (S:=⟨T.ρ,T.γ,aG T.σ s (.arr E (sz e) l.length (qn (fun i=>bN e (l.getD i (bY e))) i (I.al h l')))⟩) s (E:=E) (z:=sz e) (n:=l.length) (f:=qn (fun i=>bN e (l.getD i (bY e))) i (I.al h l')) (fun i'=>bN e ((l.set i v).getD i' (bY e))) (aC _ _ _) (fun i' df=>by
      by_cases e1:i'=i
      ·subst e1
       rw[I5,List.getD_eq_getElem?_getD,List.getElem?_set_self hi,← bd h]
       exact eE h (cM e hv)
      ·rw[RT _ _ e1]
       rw[List.getD_eq_getElem?_getD,List.getD_eq_getElem?_getD,List.getElem?_set_ne (fun h=>e1 h.symm)]
       exact Ai _)
     have e2:(⟨T.ρ,T.γ,aG (aG T.σ s (.arr E (sz e) l.length (qn (fun i=>bN e (l.getD i (bY e))) i (I.al h l')))) s (.arr E (sz e) l.length (fun i'=>bN e ((l.set i v).getD i' (bY e))))⟩:St)=T.app (po s (.arr E e (l.set i v))).wr ((po s (.arr E e (l.set i v))).vl h):=by
      unfold St.app po Ef.wr Ef.vl
      simp only[Option.map_some,Option.map_none,vL,aK.toOwn,List.length_set]
      congr 1
      funext j
      simp only[aG]
      cases Nat.beq j s<;>rfl
     rw[e2]at hw
     exact hw
    ·refine ⟨_,h3,fun h T ha hg=>?_⟩
     have tJ:T.σ s=.arr E (sz e) l.length (fun i=>bN e (l.getD i (bY e))):=(ha.σ dD mx (uP hx)).trans (by rw[aF];rfl)
     have:=adR ho (ha.ev mx hx) (ha.γ dS mx (uP hx)) tJ hi (ha.ev my rfl) (lB h) fy h9 (od h) (k:=I.al h l') (by rw[jj,← bd h];exact nh h hl) hd
     exact eK this
   ·cases h3
  ·cases h
 ·cases h
end
end
end Go.Ab
namespace Go.Ab
open Go Go.RowKit
set_option linter.all false
theorem ZS {zc:Array Value}{z m:Nat} (hz:zc.size=z):(Builtin.zeroCells zc m).toList.length=m * z:=by simp[Builtin.zeroCells,hz]
theorem acE {zc:Array Value}{z m i:Nat} (hz:zc.size=z) (hi:i<m):((Builtin.zeroCells zc m).toList.drop (i * z)).take z=zc.toList:=by
 have QO:i * z+z≤m * z:=by have:=Nat.mul_le_mul_right z (show i+1≤m by omega);rw[Nat.add_mul]at this;omega
 apply List.ext_getElem?
 intro j
 simp only[List.getElem?_take,List.getElem?_drop]
 by_cases hj:j<z
 ·rw[if_pos hj]
  have h1:i * z+j<m * z:=by omega
  have h2:(i * z+j) % z=j:=by rw[Nat.mul_comm,Nat.mul_add_mod,Nat.mod_eq_of_lt hj]
  have h3:j<zc.size:=by omega
  simp[Builtin.zeroCells,hz,h1,h2]
  rw[getElem!_pos zc j h3,Array.getElem?_eq_getElem h3]
 ·rw[if_neg hj,List.getElem?_eq_none (by simp;omega)]
theorem Zw {xs zl:List Value}{z n a m i:Nat} (hx:xs.length=n * z) (hl:zl.length=m * z) (yi:a+m≤n) (hi:i<n) :
  ((xs.take (a * z)++zl++xs.drop (a * z+m * z)).drop (i * z)).take z=if a≤i∧i<a+m then (zl.drop ((i - a) * z)).take z else (xs.drop (i * z)).take z:=by
 have e1:(a+m) * z≤n * z:=Nat.mul_le_mul_right z yi
 have e2:(i+1) * z≤n * z:=Nat.mul_le_mul_right z hi
 rw[Nat.add_mul]at e1 e2
 have cz:(xs.take (a * z)).length=a * z:=by simp;omega
 apply List.ext_getElem?
 intro j
 by_cases hj:j<z
 ·split
  ·rename_i h
   have e3:(i - a) * z+a * z=i * z:=by rw[← Nat.add_mul];congr 1;omega
   have e4:(i - a+1) * z≤m * z:=Nat.mul_le_mul_right z (by omega)
   rw[Nat.add_mul]at e4
   simp only[List.getElem?_take,List.getElem?_drop,if_pos hj]
   rw[List.getElem?_append_left (by simp;omega),List.getElem?_append_right (by omega),cz]
   congr 1;omega
  ·rename_i h
   simp only[List.getElem?_take,List.getElem?_drop,if_pos hj]
   by_cases h3:i<a
   ·have e3:(i+1) * z≤a * z:=Nat.mul_le_mul_right z h3
    rw[Nat.add_mul]at e3
    rw[List.getElem?_append_left (by simp;omega),List.getElem?_append_left (by simp;omega),List.getElem?_take,if_pos (by omega)]
   ·have e3:(a+m) * z≤i * z:=Nat.mul_le_mul_right z (by omega)
    rw[Nat.add_mul]at e3
    rw[List.getElem?_append_right (by simp;omega),List.length_append,cz,hl,List.getElem?_drop]
    congr 1;omega
 ·split<;>simp only[List.getElem?_take,if_neg hj]
theorem Hw {P:Program}{w:World}{T ty E e:TypeId}{q:dM}{zv:Value}{iq:TypeInfo} (hu:P.underlying T=some (.slice E)) (jA:P.info? E=some iq) (j0:iq.zero=some zv) {g off m c:Nat}{cur:Array Value}
  (hg:w.heap[g]?=some (.cells cur e (0,0))) (hm:0<m) (Dk:off+m * zv.cells.size≤cur.size) (h1:∀ v∈zv.cells.toList,v.oneCell'=true) :
  (Builtin.clear_ #[T] ty #[.slice (some ⟨g,off,none⟩) m c]).run P w=.ok (.tuple #[]) (w.setRow g (cur.toList.take off++(Builtin.zeroCells zv.cells m).toList++cur.toList.drop (off+m * zv.cells.size)).toArray):=by
 have hl:=ZS (zc:=zv.cells) (m:=m) rfl
 have jn:=run_storeCells_at P g off e (Builtin.zeroCells zv.cells m).toList 0 cur w hg (by rw[hl];simpa using Dk) (fun v hv=>by
  simp only[Builtin.zeroCells,Array.toList_map,List.mem_map,Array.mem_toList_iff,Array.mem_range]at hv
  obtain ⟨i,hi,rfl⟩:=hv
  have hs:0<zv.cells.size:=Nat.pos_of_ne_zero fun e=>by rw[e]at hi;simp at hi
  have cz:i % zv.cells.size<zv.cells.size:=Nat.mod_lt _ hs
  refine h1 _ ?_
  rw[getElem!_pos zv.cells _ cz]
  simp)
 simp only[Nat.add_zero,hl]at jn
 cases m with
 |zero=>omega
 |succ m=>simp[Builtin.clear_,run_underlying hu,zeroValue,typeInfo,jA,j0,jn]
section
variable {X:Ctx}{o:Oper}{S:St}{T:TypeId}{r q:dM}
theorem abm {x:Operand}{s g z a0 m n:Nat}{E:TypeId}{f f':Nat→List D}{ts:Array TypeId} (ho:o.op=.call { callee:=.builtin .clear,args:=#[x],argTypes:=ts }) (fW:ts=#[T]) (hd:o.dst=none)
  (hx:S.ev X x=.ow s g z a0 m) (hg:S.γ s=g) (aF:S.σ s=.arr E z n f) (yi:a0+m≤n)
  (hr:nth X.Z.bL T=some r) (hk:Nat.beq r.k 3=true) (hE:r.el=E) (hq:nth X.Z.bL E=some q) (dF:Nat.beq q.k 9=false) (hz:q.sz=z) (nO:Nat.beq q.zs.length z=true)
  (h1:∀ i,i<n→a0≤i∧i<a0+m→f' i=q.zs.map Zr.toD) (h2:∀ i,i<n→¬(a0≤i∧i<a0+m)→f' i=f i) :
  kf X o S ⟨S.ρ,S.γ,aG S.σ s (.arr E z n f')⟩:=fun κ sv a w hs=>by
 subst fW hE
 have fY:=X.Z.bG _ _ hr (by intro e;rw[e]at hk;cases hk)
 have dx:=X.Z.bG _ _ hq (by intro e;rw[e]at dF;cases dF)
 obtain ⟨iq,dq,jA,uH,kB,pO,⟨zv,j0,oe⟩,_⟩:=du dx
 have hu:=dp fY hk
 have qv:zv.cells.size=z:=by have:=rY oe;have h2:=Nat.eq_of_beq_eq_true nO;simp at this;omega
 have hzr:aD κ S.γ sv (q.zs.map Zr.toD) zv.cells.toList:=uk oe
 have MR:∀ v∈zv.cells.toList,v.oneCell'=true:=fun v hv=>aD.lg hzr (wU _) v hv
 have fq:=hs.aJ.own s
 rw[aF]at fq
 obtain ⟨xs,aP,gT,mS,eI⟩:=fq
 have cH:=hs.ev x
 rw[hx]at cH
 have tA:∀ (w':World) (oq:List Value),(Builtin.clear_ #[T] o.type #[a.eval x]).run X.Z.P w=.ok (.tuple #[]) w'→w.grownBy w' (aL (S.σ s) (sv s))→eo w' (X.base s) r.el z (sv s) n oq →
   (∀ i,i<n→aD κ S.γ sv (f' i) ((oq.drop (i * z)).take z)) →
   ∃ v w' aA aQ,((execOp a.eval o).run X.Z.P w=.ok (.value v) w'∨((execOp a.eval o).run X.Z.P w=.ok .skip w'∧v=Go.undef))∧bk X aA aQ ⟨S.ρ,S.γ,aG S.σ s (.arr r.el z n f')⟩ (a.put o.dst v) w':=fun w' oq bX cG XR e4=>by
  have hlc:∀ i,i<n→(f' i).length=z∧aY (f' i)=true:=fun i hi=>by
   by_cases h:a0≤i∧i<a0+m
   ·rw[h1 i hi h];exact⟨by simpa using Nat.eq_of_beq_eq_true nO,wU _⟩
   ·rw[h2 i hi h];exact⟨gT i hi,mS i hi⟩
  have hW:=hs.aJ.rewrite s (.arr r.el z n f') cG (by rw[aF];exact Bj _) ⟨oq,XR,fun i hi=>(hlc i hi).1,fun i hi=>(hlc i hi).2,e4⟩ S.ρ
  have hS:bk X κ sv ⟨S.ρ,S.γ,aG S.σ s (.arr r.el z n f')⟩ a w':=⟨hs.size,ib hs s cG,hs.slot,hW⟩
  rw[hd]
  refine ⟨.tuple #[],w',κ,sv,.inl ?_,hS⟩
  simp[execOp,ho,resolve,invoke,builtin,bX]
 have hzero:m=0→∀ i,i<n→f' i=f i:=fun h0 i hi=>h2 i hi (by omega)
 obtain ⟨ad,N,cap,gy,hv⟩:∃ ad N cap,sv s=.slice ad N cap∧a.eval x=.slice (if cap=a0 then ad else ad.map (·.add (a0 * z))) m (cap - a0):=by
  generalize a.eval x=v at cH
  cases cH with
  |ow _ _ _ _ _ _ _ hh _=>exact hh hg.symm
 by_cases QQ:m=0
 ·refine tA w xs ?_ (cL (Below.refl _ _) _) aP (fun i hi=>by rw[hzero QQ i hi];exact eI i hi)
  rw[hv,QQ]
  cases (if cap=a0 then ad else ad.map (·.add (a0 * z)))<;>simp[Builtin.clear_,run_underlying hu]
 rcases aP.2 with ⟨QY,yo⟩|⟨g',off,iO,cur,QY,dj,kq,iX,rP,kC,gR⟩
 ·omega
 rw[QY]at gy
 simp only[Value.slice.injEq]at gy
 obtain ⟨rfl,rfl,rfl⟩:=gy
 rw[if_neg (by omega)]at hv
 simp only[Option.map_some,addr_add]at hv
 have e1:(a0+m) * z≤n * z:=Nat.mul_le_mul_right z yi
 have e2:n * z≤iO * z:=Nat.mul_le_mul_right z iX
 rw[Nat.add_mul]at e1
 have bX:=Hw (w:=w) (T:=T) (ty:=o.type) (q:=q) (c:=iO - a0) hu jA j0 kq (off:=off+a0 * z) (m:=m) (by omega) (by rw[qv];omega) MR
 rw[← hv,qv]at bX
 have bS:=aP.1
 have qu:=ZS (zc:=zv.cells) (m:=m) qv
 generalize arY:(Builtin.zeroCells zv.cells m).toList=zl at bX qu
 refine tA _ (xs.take (a0 * z)++zl++xs.drop (a0 * z+m * z)) bX (by rw[aF,QY];exact jy _ _ _) ?_ (fun i hi=>?_)
 ·refine ⟨by simp;omega,.inr ⟨g',off,iO,_,QY,dj,setRow_heap w g' cur _ _ (0,0) kq,iX,rP,?_,?_⟩⟩
  ·simp;omega
  ·have:=sS (cur:=cur.toList) (ds:=zl) (off:=off) (p:=a0 * z) (N:=n * z) (by omega) (by simp;omega)
   rw[qu]at this
   rw[this,gR]
 ·rw[Zw bS qu yi hi]
  split
  ·rename_i h
   rw[h1 i hi h,← arY,acE qv (by omega)]
   exact hzr
  ·rename_i h;rw[h2 i hi h];exact eI i hi
end
def Kf (d:D):Prop:=∀ {κ aA:Nat→Nat→Option Value}{γ cU:Nat→Nat}{sv aQ:Nat→Value}{v:Value},aW κ γ sv d v→aW aA cU aQ d v
theorem Bx {d:D}{v0:Value} (h:ma d=some v0):Kf d:=fun hr=>Zl h hr
theorem anw (z:Nat) (f:Nat→List D):Kf (.sl z 0 f):=fun hr=>by
 cases hr with
 |sl=>exact .kV _ _ _ _
 |lI=>exact .lI _ _
 |kV=>exact .kV _ _ _ _
theorem akJ:Kf .nil:=fun hr=>by cases hr;exact .nil
section
variable {X:Ctx}{S:St}
theorem O0 {κ:Nat→Nat→Option Value}{sv:Nat→Value}{a:Act}{w:World} (hs:bk X κ sv S a w) {f:FuncId}{L A:List D}{vs:List Value}{E z n:Nat}{el:Nat→List D}{s1 g1:Nat} (hc:kK X.Z f A (.os s1 g1) E z n el) (hr:aD κ S.γ sv L vs) (hA:s7 S L A) (hel:∀ i,i<n→∀ d∈el i,Kf d) :
  Calls X.Z.P f vs.toArray w (acL κ w (.os s1 g1) E z n el):=by
 let vh:Nat→Nat→Option Value:=fun b o=>w.cell? ⟨b,o,none⟩
 have hle:Le κ vh S.γ S.γ sv sv:=⟨fun b o v hk=>hs.aJ.gU b o v hk,fun _=>Nat.le_refl _,fun _ _=>rfl⟩
 have Co:=hA.rep hs.aJ hle (fun b o v h=>h) hr
 refine (hc.calls w vh _ (fun b o v h=>h) ⟨fun g l hg=>?_,(bk.jY hs.aJ).2⟩ (Co.pure (fun _ _ _ h=>h) hc.j6)).mono ?_
 ·obtain ⟨h1,u,h2,h3⟩:=(bk.jY hs.aJ).1 g l hg
  exact⟨h1,u,h2.mono ⟨fun b o v hk=>hs.aJ.gU b o v hk,fun _=>Nat.le_refl _,fun _ _=>rfl⟩,fun j v hj=>hs.aJ.gU _ _ _ (h3 j v hj)⟩
 ·rintro e w' ⟨v,sl,aA,rfl,hv,k1,k2,k3,Cp,aP,qS,hb⟩
  have cz:∀ b o u,κ b o=some u→b<w.heap.size:=fun b o u hk=>by simpa using World.block_lt_of_cell? w _ (hs.aJ.gU b o u hk)
  refine ⟨v,sl,κ,rfl,?_,fun _ _ _ h=>h,fun _ _ _ _ h=>h,fun b o u hk=>(hb.cell (World.block_lt_of_cell? w _ (hs.aJ.gU b o u hk))).trans (hs.aJ.gU b o u hk),Cp,?_,fun b bP o=>?_,hb⟩
  ·simp only[kd]at hv ⊢
   cases hv with
   |os _ _ _ h1 h2 h3=>exact .os _ _ _ h1 h2 h3
  ·obtain ⟨xs,e1,e2,e3,e4⟩:=aP
   refine ⟨xs,e1,e2,e3,fun i hi=>?_⟩
   have key:∀ {l:List D}{us:List Value},(∀ d∈l,Kf d)→aD aA (fun _=>1) (fun _=>sl) l us→aD κ (fun _=>1) (fun _=>sl) l us:=by
    intro l
    induction l with
    |nil=>intro us _ h;cases h;exact .nil
    |cons d l ih =>
     intro us hd h
     cases h with
     |cons _ _ _ _ h1 h2 =>
      exact .cons _ _ _ _ (hd d (List.mem_cons_self ..) h1) (ih (fun x hx=>hd x (List.mem_cons_of_mem _ hx)) h2)
   exact key (hel i hi) (e4 i hi)
  ·cases hk:κ b o with
   |none=>rfl
   |some u =>
    have h1:=cz b o u hk
    have h2:=abN aP b bP
    omega
end
end Go.Ab
