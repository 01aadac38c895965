/- Walks by computing: what each function of the program that the laws reach gives for what it gets, as plain Lean, and that it is so; without a condition but those that stand in each theorem. -/
import Derived.WalkKit
import Derived.WalkSpells
import Derived.TacticsIn
import Derived.OrdersIn
import Derived.LoopNIn
import Derived.RangeFuncLeaves
import Derived.RangeFuncCalls
import Derived.RangeFuncFrom
import Derived.Laws.AppendOwnNone
import Derived.Great.BuildSlice
import Derived.ArgAppend
import Derived.RangeFuncRecord
import Derived.Test.YtbhjjkekphpldaaGreatDoorProg
import Derived.KernelRfl
set_option linter.all false
namespace Go.Ab
theorem rr.{u} {α : Sort u} (a : α) : a = a := Eq.refl a
open Go Go.RowKit
inductive LK where
 |np
 |ni
 |nn
 |ai
deriving DecidableEq
def LK.Ok:LK→Value→Prop
 |.np,v=>v=.pointer none
 |.ni,v=>v=.nilIface
 |.nn,v=>∃ t p,v=.iface t p
 |.ai,v=>∃ n,v=.int .i64 n
theorem LK.one {c:LK}{v:Value} (h:c.Ok v):v.oneCell'=true:=by
 cases c with
 |np=>cases h;rfl
 |ni=>cases h;rfl
 |nn=>obtain ⟨t,p,rfl⟩:=h;rfl
 |ai=>obtain ⟨n,rfl⟩:=h;rfl
inductive D where
 |int (k:IntKind) (n:Int)
 |bool (b:Bool)
 |str (s:ByteArray)
 |agg (l:List D)
 |bn (l:List D)
 |sl (z n:Nat) (f:Nat→List D)
 |nil
 |rp (l:List D) (o:Nat)
 |bx (s g o:Nat)
 |mb (s g:Nat) (T:TypeId)
 |os (s g:Nat)
 |op (s g z i o:Nat)
 |ow (s g z a m:Nat)
 |fn (f:FuncId) (c:List D)
 |yl (l:Nat)
 |mf (f:FuncId) (c:List D)
 |one
 |lk (c:LK)
 |undef
instance:Inhabited D:=⟨.undef⟩
def D.iY:D→Bool
 |.agg _|.bn _|.undef=>false
 |_=>true
def aY:List D→Bool
 |[]=>true
 |d::l=>d.iY&&aY l
def ph:List D→Option TypeId
 |.mb _ _ T::_=>some T
 |_=>none
def BX (l:List D) (T:TypeId):Prop:=aY l=true∧∀ T0,ph l=some T0→T=T0
def UF:D→Bool
 |.mb _ _ _=>false
 |_=>true
theorem abe {d:D} (hd:UF d=true) (l:List D) (j k:Nat) (T0:TypeId) (h:ph (l.take j++[d]++l.drop k)=some T0):ph l=some T0:=by
 have key:∀ m:List D,ph ([d]++m)=some T0→False:=fun m e=>by
  cases d<;>first|cases hd;done|cases e;done
 cases j with
 |zero=>simp only[List.take_zero,List.nil_append]at h;exact(key _ h).elim
 |succ j =>
  cases l with
  |nil=>simp only[List.take_nil,List.nil_append]at h;exact(key _ h).elim
  |cons a l=>simp only[List.take_succ_cons,List.cons_append]at h;cases a<;>first|exact h|cases h;done
theorem BX.of {l:List D}{T:TypeId} (h:aY l=true) (hm:ph l=none):BX l T:=⟨h,fun _ e=>by rw[hm]at e;cases e⟩
inductive Own where
 |none
 |box (l:List D)
 |arr (T z n:Nat) (f:Nat→List D)
 |mp (l:List (Value×Value))
 |si (s:ByteArray) (p:Nat)
structure St where
 ρ:Nat→D
 γ:Nat→Nat
 σ:Nat→Own
def aG {α:Type} (f:Nat→α) (i:Nat) (v:α):Nat→α:=fun j=>bif Nat.beq j i then v else f j
theorem aC {α:Type} (f:Nat→α) (i:Nat) (v:α):aG f i v i=v:=by
 unfold aG;have:Nat.beq i i=true:=Nat.beq_refl i;rw[this];rfl
theorem bh {α:Type} (f:Nat→α) (i j:Nat) (v:α) (h:j≠i):aG f i v j=f j:=by
 unfold aG
 have:Nat.beq j i=false:=by
  cases hb:Nat.beq j i
  ·rfl
  ·exact absurd (Nat.eq_of_beq_eq_true hb) h
 rw[this];rfl
def St.set (S:St) (i:Nat) (d:D):St:=⟨aG S.ρ i d,S.γ,S.σ⟩
def St.put (S:St):Option Nat→D→St
 |some i,d=>S.set i d
 |none,_=>S
mutual
inductive aW (κ:Nat→Nat→Option Value) (γ:Nat→Nat) (sv:Nat→Value):D→Value→Prop
 |int (k:IntKind) (n:Int):aW κ γ sv (.int k n) (.int k n)
 |bool (b:Bool):aW κ γ sv (.bool b) (.bool b)
 |str (s:ByteArray):aW κ γ sv (.str s) (.string s)
 |agg (l:List D) (vs:List Value):aD κ γ sv l vs→aW κ γ sv (.agg l) (.agg vs.toArray)
 |bn (l:List D) (vs:List Value):aD κ γ sv l vs→aW κ γ sv (.bn l) (.tuple vs.toArray)
 |sl (z n:Nat) (f:Nat→List D) (b off cap:Nat) (u:Nat→List Value):n≤cap→(∀ i,i<n→(f i).length=z) →
   (∀ i,i<n→aY (f i)=true)→(∀ i,i<n→aD κ γ sv (f i) (u i))→(∀ i j v,i<n→(u i)[j]?=some v→κ b (off+i * z+j)=some v) →
   aW κ γ sv (.sl z n f) (.slice (some ⟨b,off,none⟩) n cap)
 |lI (z:Nat) (f:Nat→List D):aW κ γ sv (.sl z 0 f) (.slice none 0 0)
 |kV (z:Nat) (f:Nat→List D) (a:Addr) (cap:Nat):aW κ γ sv (.sl z 0 f) (.slice (some a) 0 cap)
 |nil:aW κ γ sv .nil (.slice none 0 0)
 |rp (l:List D) (o b off:Nat) (u:List Value):aY l=true→aD κ γ sv l u→(∀ j v,u[j]?=some v→κ b (off+j)=some v) →
   aW κ γ sv (.rp l o) (.pointer (some ⟨b,off+o,none⟩))
 |bx (s g o:Nat) (v:Value):g≤γ s→(g=γ s→∃ b,sv s=.pointer (some ⟨b,0,none⟩)∧v=.pointer (some ⟨b,o,none⟩)) →
   v.oneCell'=true→aW κ γ sv (.bx s g o) v
 |Np (s g:Nat) (T:TypeId):aW κ γ sv (.mb s g T) (.pointer none)
 |mb (s g:Nat) (T:TypeId) (v:Value):g≤γ s→(g=γ s→v=sv s)→v.oneCell'=true→aW κ γ sv (.mb s g T) v
 |os (s g:Nat) (v:Value):g≤γ s→(g=γ s→v=sv s)→v.oneCell'=true→aW κ γ sv (.os s g) v
 |op (s g z i o:Nat) (v:Value):g≤γ s→(g=γ s→∃ b off n cap,sv s=.slice (some ⟨b,off,none⟩) n cap∧v=.pointer (some ⟨b,off+(i * z+o),none⟩)) →
   v.oneCell'=true→aW κ γ sv (.op s g z i o) v
 |ow (s g z a m:Nat) (v:Value):g≤γ s→(g=γ s→∃ ad N cap,sv s=.slice ad N cap∧v=.slice (if cap=a then ad else ad.map (·.add (a * z))) m (cap - a)) →
   v.oneCell'=true→aW κ γ sv (.ow s g z a m) v
 |fn (f:FuncId) (c:List D) (vs:List Value):aD κ γ sv c vs→aW κ γ sv (.fn f c) (.func (.func f) #[] vs.toArray)
 |yl (l:Nat):aW κ γ sv (.yl l) (.func (.yield l) #[] #[])
 |mf (f:FuncId) (c:List D) (vs:List Value):aD κ γ sv c vs→aW κ γ sv (.mf f c) (.func (.func f) vs.toArray #[])
 |one (v:Value):v.oneCell'=true→aW κ γ sv .one v
 |lk (c:LK) (v:Value):c.Ok v→aW κ γ sv (.lk c) v
 |undef (v:Value):aW κ γ sv .undef v
inductive aD (κ:Nat→Nat→Option Value) (γ:Nat→Nat) (sv:Nat→Value):List D→List Value→Prop
 |nil:aD κ γ sv [] []
 |cons (d:D) (v:Value) (l:List D) (vs:List Value):aW κ γ sv d v→aD κ γ sv l vs→aD κ γ sv (d::l) (v::vs)
end
section
variable {κ aA:Nat→Nat→Option Value}{γ cU:Nat→Nat}{sv aQ:Nat→Value}
structure Le (κ aA:Nat→Nat→Option Value) (γ cU:Nat→Nat) (sv aQ:Nat→Value):Prop where
 cells:∀ b o v,κ b o=some v→aA b o=some v
 mQ:∀ s,γ s≤cU s
 ug:∀ s,γ s=cU s→aQ s=sv s
theorem Le.refl (κ:Nat→Nat→Option Value) (γ:Nat→Nat) (sv:Nat→Value):Le κ κ γ γ sv sv:=⟨fun _ _ _ h=>h,fun _=>Nat.le_refl _,fun _ _=>rfl⟩
theorem Le.trans {amQ:Nat→Nat→Option Value}{amO:Nat→Nat}{al2:Nat→Value} (h:Le κ aA γ cU sv aQ) (h':Le aA amQ cU amO aQ al2):Le κ amQ γ amO sv al2 :=
 ⟨fun b o v hk=>h'.cells b o v (h.cells b o v hk),fun s=>Nat.le_trans (h.mQ s) (h'.mQ s),fun s e=>by
  have h1:=h.mQ s
  have h2:=h'.mQ s
  rw[h'.ug s (by omega),h.ug s (by omega)]⟩
theorem Le.zK (h:Le κ aA γ cU sv aQ) {s g:Nat} (hg:g≤γ s) (he:g=cU s):g=γ s∧aQ s=sv s:=by
 have:=h.mQ s
 have e:γ s=cU s:=by omega
 exact⟨by omega,h.ug s e⟩
mutual
theorem aW.mono (h:Le κ aA γ cU sv aQ):∀ {d:D}{v:Value},aW κ γ sv d v→aW aA cU aQ d v
 |_,_,.int k n=>.int k n
 |_,_,.bool b=>.bool b
 |_,_,.str s=>.str s
 |_,_,.agg l vs hl=>.agg l vs (aD.mono h hl)
 |_,_,.bn l vs hl=>.bn l vs (aD.mono h hl)
 |_,_,.sl z n f b off cap u h1 h2 h5 h3 h4=>.sl z n f b off cap u h1 h2 h5 (fun i hi=>aD.mono h (h3 i hi)) (fun i j v hi hj=>h.cells _ _ _ (h4 i j v hi hj))
 |_,_,.lI z f=>.lI z f
 |_,_,.kV z f a c=>.kV z f a c
 |_,_,.nil=>.nil
 |_,_,.rp l o b off u h0 h1 h2=>.rp l o b off u h0 (aD.mono h h1) (fun j v hj=>h.cells _ _ _ (h2 j v hj))
 |_,_,.bx s g o v h1 h2 h3=>.bx s g o v (Nat.le_trans h1 (h.mQ s)) (fun e=>by
   obtain ⟨e1,e2⟩:=h.zK h1 e
   rw[e2];exact h2 e1) h3
 |_,_,.Np s g T=>.Np s g T
 |_,_,.mb s g T v h1 h2 h3=>.mb s g T v (Nat.le_trans h1 (h.mQ s)) (fun e=>by
   obtain ⟨e1,e2⟩:=h.zK h1 e
   rw[e2];exact h2 e1) h3
 |_,_,.os s g v h1 h2 h3=>.os s g v (Nat.le_trans h1 (h.mQ s)) (fun e=>by
   obtain ⟨e1,e2⟩:=h.zK h1 e
   rw[e2];exact h2 e1) h3
 |_,_,.op s g z i o v h1 h2 h3=>.op s g z i o v (Nat.le_trans h1 (h.mQ s)) (fun e=>by
   obtain ⟨e1,e2⟩:=h.zK h1 e
   rw[e2];exact h2 e1) h3
 |_,_,.ow s g z a m v h1 h2 h3=>.ow s g z a m v (Nat.le_trans h1 (h.mQ s)) (fun e=>by
   obtain ⟨e1,e2⟩:=h.zK h1 e
   rw[e2];exact h2 e1) h3
 |_,_,.fn f c vs hl=>.fn f c vs (aD.mono h hl)
 |_,_,.yl l=>.yl l
 |_,_,.mf f c vs hl=>.mf f c vs (aD.mono h hl)
 |_,_,.one v h=>.one v h
 |_,_,.lk c v h=>.lk c v h
 |_,_,.undef v=>.undef v
theorem aD.mono (h:Le κ aA γ cU sv aQ):∀ {l:List D}{vs:List Value},aD κ γ sv l vs→aD aA cU aQ l vs
 |_,_,.nil=>.nil
 |_,_,.cons d v l vs h1 h2=>.cons d v l vs (aW.mono h h1) (aD.mono h h2)
end
theorem aD.length:∀ {l:List D}{vs:List Value},aD κ γ sv l vs→vs.length=l.length
 |_,_,.nil=>rfl
 |_,_,.cons _ _ _ _ _ h=>by simp[aD.length h]
theorem aD.get:∀ {l:List D}{vs:List Value},aD κ γ sv l vs→∀ {j:Nat}{d:D},l[j]?=some d→∃ v,vs[j]?=some v∧aW κ γ sv d v
 |_,_,.nil,j,d,h=>by simp at h
 |_,_,.cons _ v _ _ h1 h2,0,d,h=>by simp at h;subst h;exact⟨v,by simp,h1⟩
 |_,_,.cons _ _ _ _ _ h2,j+1,d,h=>by
  obtain ⟨v,hv,hr⟩:=aD.get h2 (j:=j) (d:=d) (by simpa using h)
  exact⟨v,by simpa using hv,hr⟩
theorem aD.take:∀ {l:List D}{vs:List Value},aD κ γ sv l vs→∀ n,aD κ γ sv (l.take n) (vs.take n)
 |_,_,.nil,n=>by simp;exact .nil
 |_,_,.cons _ _ _ _ _ _,0=>by simp;exact .nil
 |_,_,.cons d v l vs h1 h2,n+1=>by simp;exact .cons _ _ _ _ h1 (aD.take h2 n)
theorem aD.drop:∀ {l:List D}{vs:List Value},aD κ γ sv l vs→∀ n,aD κ γ sv (l.drop n) (vs.drop n)
 |_,_,.nil,n=>by simp;exact .nil
 |_,_,.cons d v l vs h1 h2,0=>by simp;exact .cons _ _ _ _ h1 h2
 |_,_,.cons _ _ _ _ _ h2,n+1=>by simp;exact aD.drop h2 n
theorem aD.append:∀ {l:List D}{vs:List Value},aD κ γ sv l vs→∀ {l':List D}{vs':List Value},aD κ γ sv l' vs'→aD κ γ sv (l++l') (vs++vs')
 |_,_,.nil,_,_,h=>by simpa using h
 |_,_,.cons d v l vs h1 h2,_,_,h=>by simp;exact .cons _ _ _ _ h1 (aD.append h2 h)
theorem aW.Rg {d:D}{v:Value} (h:aW κ γ sv d v) (hc:d.iY=true):v.oneCell'=true:=by
 cases h<;>first|rfl|assumption|(exact LK.one (by assumption))|(simp[D.iY]at hc)
theorem aD.lg:∀ {l:List D}{vs:List Value},aD κ γ sv l vs→aY l=true→∀ v∈vs,v.oneCell'=true
 |_,_,.nil,_,v,hv=>by simp at hv
 |_,_,.cons d v l vs h1 h2,hc,x,hx=>by
  simp only[aY,Bool.and_eq_true]at hc
  rcases List.mem_cons.1 hx with rfl|hx
  ·exact h1.Rg hc.1
  ·exact aD.lg h2 hc.2 x hx
theorem ga {l l':List D} (h:aY l=true) (h':aY l'=true):aY (l++l')=true:=by
 induction l with
 |nil=>simpa
 |cons d l ih=>simp only[aY,Bool.and_eq_true]at h;simp[aY,h.1,ih h.2]
theorem pG {l:List D} (h:aY l=true) (n:Nat):aY (l.take n)=true:=by
 induction l generalizing n with
 |nil=>simpa
 |cons d l ih =>
  simp only[aY,Bool.and_eq_true]at h
  cases n with
  |zero=>simp[aY]
  |succ n=>simp[aY,h.1,ih h.2]
theorem pE {l:List D} (h:aY l=true) (n:Nat):aY (l.drop n)=true:=by
 induction l generalizing n with
 |nil=>simpa
 |cons d l ih =>
  cases n with
  |zero=>simpa using h
  |succ n=>simp only[aY,Bool.and_eq_true]at h;simpa using ih h.2 n
def D.cells:D→List D
 |.agg l=>l
 |d=>[d]
theorem aW.cells {d:D}{v:Value} (h:aW κ γ sv d v) (hc:aY d.cells=true):aD κ γ sv d.cells v.cells.toList∧∀ u∈v.cells.toList,u.oneCell'=true:=by
 have key:d.iY=true→aD κ γ sv [d] v.cells.toList∧∀ u∈v.cells.toList,u.oneCell'=true:=by
  intro hd
  have ho:=h.Rg hd
  have hv:v.cells=#[v]:=by cases v<;>first|rfl|(simp[Value.oneCell']at ho)
  rw[hv]
  exact⟨.cons _ _ _ _ h .nil,by simpa using ho⟩
 cases h with
 |agg l vs hl=>exact⟨by simpa[D.cells,Value.cells] using hl,by simpa[Value.cells] using aD.lg hl (by simpa[D.cells] using hc)⟩
 |bn l vs hl=>simp[D.cells,aY,D.iY]at hc
 |undef v=>simp[D.cells,aY,D.iY]at hc
 |_=>exact key rfl
end
inductive Pure:D→Prop
 |int (k:IntKind) (n:Int):Pure (.int k n)
 |bool (b:Bool):Pure (.bool b)
 |str (s:ByteArray):Pure (.str s)
 |agg (l:List D):(∀ d∈l,Pure d)→Pure (.agg l)
 |bn (l:List D):(∀ d∈l,Pure d)→Pure (.bn l)
 |sl (z n:Nat) (f:Nat→List D):(∀ i,i<n→∀ d∈f i,Pure d)→Pure (.sl z n f)
 |nil:Pure .nil
 |rp (l:List D) (o:Nat):(∀ d∈l,Pure d)→Pure (.rp l o)
 |fn (f:FuncId) (c:List D):(∀ d∈c,Pure d)→Pure (.fn f c)
 |yl (l:Nat):Pure (.yl l)
 |mf (f:FuncId) (c:List D):(∀ d∈c,Pure d)→Pure (.mf f c)
 |one:Pure .one
 |lk (c:LK):Pure (.lk c)
 |undef:Pure .undef
def ab (l:List D):Prop:=∀ d∈l,Pure d
theorem ab.UF {l:List D} (h:ab l):ph l=none:=by
 unfold ph
 split
 ·have:=h _ (List.mem_cons_self ..);cases this
 ·rfl
theorem BX.pure {l:List D}{T:TypeId} (h:aY l=true) (hp:ab l):BX l T:=BX.of h hp.UF
theorem ab.nil:ab []:=fun _ h=>by simp at h
theorem ab.cons {d:D}{l:List D} (h:Pure d) (hl:ab l):ab (d::l):=fun x hx=>by
 rcases List.mem_cons.1 hx with rfl|hx
 ·exact h
 ·exact hl x hx
section
variable {κ aA:Nat→Nat→Option Value}{γ cU:Nat→Nat}{sv aQ:Nat→Value}
mutual
theorem aW.pure (bQ:∀ b o v,κ b o=some v→aA b o=some v):∀ {d:D}{v:Value},aW κ γ sv d v→Pure d→aW aA cU aQ d v
 |_,_,.int k n,_=>.int k n
 |_,_,.bool b,_=>.bool b
 |_,_,.str s,_=>.str s
 |_,_,.agg l vs hl,hp=>.agg l vs (aD.pure bQ hl (by cases hp;assumption))
 |_,_,.bn l vs hl,hp=>.bn l vs (aD.pure bQ hl (by cases hp;assumption))
 |_,_,.sl z n f b off cap u h1 h2 h5 h3 h4,hp=>.sl z n f b off cap u h1 h2 h5 (fun i hi=>aD.pure bQ (h3 i hi) (by cases hp with|sl _ _ _ h=>exact h i hi)) (fun i j v hi hj=>bQ _ _ _ (h4 i j v hi hj))
 |_,_,.lI z f,_=>.lI z f
 |_,_,.kV z f a c,_=>.kV z f a c
 |_,_,.nil,_=>.nil
 |_,_,.rp l o b off u h0 h1 h2,hp=>.rp l o b off u h0 (aD.pure bQ h1 (by cases hp;assumption)) (fun j v hj=>bQ _ _ _ (h2 j v hj))
 |_,_,.bx s g o v _ _ _,hp=>by cases hp
 |_,_,.Np s g T,hp=>by cases hp
 |_,_,.mb s g T v _ _ _,hp=>by cases hp
 |_,_,.os s g v _ _ _,hp=>by cases hp
 |_,_,.op s g z i o v _ _ _,hp=>by cases hp
 |_,_,.ow s g z a m v _ _ _,hp=>by cases hp
 |_,_,.fn f c vs hl,hp=>.fn f c vs (aD.pure bQ hl (by cases hp;assumption))
 |_,_,.yl l,_=>.yl l
 |_,_,.mf f c vs hl,hp=>.mf f c vs (aD.pure bQ hl (by cases hp;assumption))
 |_,_,.one v h,_=>.one v h
 |_,_,.lk c v h,_=>.lk c v h
 |_,_,.undef v,_=>.undef v
theorem aD.pure (bQ:∀ b o v,κ b o=some v→aA b o=some v):∀ {l:List D}{vs:List Value},aD κ γ sv l vs→ab l→aD aA cU aQ l vs
 |_,_,.nil,_=>.nil
 |_,_,.cons d v l vs h1 h2,hp=>.cons d v l vs (aW.pure bQ h1 (hp d (by simp))) (aD.pure bQ h2 (fun x hx=>hp x (by simp[hx])))
end
end
end Go.Ab
namespace Go.Ab
open Go Go.RowKit
inductive Zr where
 |i (k:IntKind)|b|s|sl|o|np|ni
structure dM where
 k:Nat
 sz:Nat
 bytes:Nat
 fl:List (Nat×Nat×Bool)
 el:Nat
 ln:Nat
 zs:List Zr
def Zr.toD:Zr→D
 |.i k=>.int k 0
 |.b=>.bool false
 |.s=>.str ⟨#[]⟩
 |.sl=>.nil
 |.o=>.one
 |.np=>.lk .np
 |.ni=>.lk .ni
def Zr.fits:Zr→Value→Bool
 |.i k,.int k' n=>k == k'&&n == 0
 |.b,.bool x=>!x
 |.s,.string x=>x.data.isEmpty
 |.sl,.slice none 0 0=>true
 |.o,.map none=>true
 |.o,.nilFunc=>true
 |.np,.pointer none=>true
 |.ni,.nilIface=>true
 |_,_=>false
def Zr.xu:List Zr→List Value→Bool
 |[],[]=>true
 |z::zs,v::vs=>z.fits v&&Zr.xu zs vs
 |_,_=>false
def nA (P:Program) (t:TypeId):Bool:=match P.underlying t with|some (.struct _)|some (.array _ _)=>true|_=>false
def kt (P:Program) (t:TypeId) (r:dM):Bool :=
 match P.info? t,P.underlying t with
 |some i,some d=>i.size == r.sz&&i.bytes == r.bytes&&(match i.zero with|some v=>Zr.xu r.zs v.cells.toList|none=>false) &&
  (match d with
   |.struct fs=>r.k == 1&&fs.toList.map (fun f=>(f.offset,P.cellsOf f.type,nA P f.type)) == r.fl&&fs.toList.all (fun f=>(P.info? f.type).isSome&&(P.underlying f.type).isSome)
   |.array n e=>r.k == 2&&n == r.ln&&e == r.el
   |.slice e=>r.k == 3&&e == r.el
   |_=>r.k == 0)
 |_,_=>false
def nth {α:Type}:List α→Nat→Option α
 |[],_=>none
 |a::_,0=>some a
 |_::l,n+1=>nth l n
theorem eU {α:Type}:∀ (l:List α) (n:Nat),nth l n=l[n]?
 |[],n=>by simp[nth]
 |a::_,0=>by simp[nth]
 |_::l,n+1=>by simp[nth,eU l n]
structure Seat where
 P:Program
 bL:List dM
 nU:Nat→Option (List D)
 bG:∀ t r,nth bL t=some r→r.k≠9→kt P t r=true
 qQ:∀ g l,nU g=some l→ab l
 mixed:P.follows .mixedOrders=true
 zM:Nat→Option Nat:=fun _=>none
 Ue:∀ g n,zM g=some n→∃ l,nU g=some l∧l≠[]:=by intro g n h;cases h
def jH (w:World) (g n:Nat):Prop:=∃ cs T fr,w.heap[g]?=some (.cells cs T fr)∧cs.size=n
structure Frame (ext:Option Nat) (w w':World):Prop where
 os:w'.os=w.os
 tape:w'.tape=w.tape
 output:w'.output=w.output
 size:w.heap.size≤w'.heap.size
 block:∀ k,k<w.heap.size→some k≠ext→w'.heap[k]?=w.heap[k]?
theorem Frame.refl (ext:Option Nat) (w:World):Frame ext w w:=⟨rfl,rfl,rfl,Nat.le_refl _,fun _ _ _=>rfl⟩
theorem Frame.trans {ext:Option Nat}{a b c:World} (h:Frame ext a b) (h':Frame ext b c):Frame ext a c :=
 ⟨h'.os.trans h.os,h'.tape.trans h.tape,h'.output.trans h.output,Nat.le_trans h.size h'.size,fun k hk he=>(h'.block k (Nat.lt_of_lt_of_le hk h.size) he).trans (h.block k hk he)⟩
theorem Frame.below {w w':World} (h:Frame none w w'):Below w.heap.size w w':=⟨h.os,h.tape,h.output,h.size,fun k hk=>h.block k hk (by simp)⟩
structure Step (M:Nat→Prop) (w w':World):Prop where
 os:w'.os=w.os
 tape:w'.tape=w.tape
 output:w'.output=w.output
 size:w.heap.size≤w'.heap.size
 block:∀ k,k<w.heap.size→¬ M k→w'.heap[k]?=w.heap[k]?
structure Ctx where
 Z:Seat
 nt:Nat
 w0:World
 fg:Nat→Nat→Option Value
 ext:Option Nat
 ex:Nat→Prop
 nR:Nat→Nat→Option Value
 kY:Nat→Nat
 ny:Nat→Value
 T:Nat→Prop
 nd:Bool
 ro:Option Nat
 Φ:(Nat→Prop)→World→Prop
 cl:∀ M w w',Φ M w→Step M w w'→Φ (fun k=>M k∨w.heap.size≤k) w'
 fr:∀ M w,Φ M w→∀ g n,Z.zM g=some n→g<w0.heap.size→ext≠some g→¬ ex g→jH w0 g n→jH w g n
 xa:Nat→Bool
def Ctx.base (X:Ctx) (s:Nat):Nat:=bif X.xa s then 0 else X.w0.heap.size
theorem Ctx.Gx (X:Ctx) (s:Nat):X.base s≤X.w0.heap.size:=by
 unfold Ctx.base;cases X.xa s with
 |true=>exact Nat.zero_le _
 |false=>exact Nat.le_refl _
theorem Ctx.aeW {X:Ctx}{s:Nat} (h:X.xa s=false):X.base s=X.w0.heap.size:=by unfold Ctx.base;rw[h];rfl
def Ctx.F (X:Ctx):Fence:={ Fence.wide with round:=X.ro }
def j5 (w0:World) (ext:Option Nat) (M:Nat→Prop) (w:World):Prop:=Frame ext w0 w∧∀ k,M k→w0.heap.size≤k∨ext=some k
theorem Dx (w0:World) (ext:Option Nat):∀ M w w',j5 w0 ext M w→Step M w w'→j5 w0 ext (fun k=>M k∨w.heap.size≤k) w':=fun M w w' h hs =>
 ⟨⟨hs.os.trans h.1.os,hs.tape.trans h.1.tape,hs.output.trans h.1.output,Nat.le_trans h.1.size hs.size,fun k hk he =>
  (hs.block k (Nat.lt_of_lt_of_le hk h.1.size) (fun hm=>by rcases h.2 k hm with h8|h8<;>first|omega|exact he h8.symm)).trans (h.1.block k hk he)⟩,
  fun k hk=>by
   rcases hk with hk|hk
   ·exact h.2 k hk
   ·exact .inl (Nat.le_trans h.1.size hk)⟩
theorem jH.eq {w w':World}{g n:Nat} (h:jH w g n) (e:w'.heap[g]?=w.heap[g]?):jH w' g n:=by
 obtain ⟨cs,T,fr,h1,h2⟩:=h
 exact⟨cs,T,fr,e.trans h1,h2⟩
theorem Dy (Z:Seat) (w0:World) (ext:Option Nat):∀ M w,j5 w0 ext M w→∀ g n,Z.zM g=some n→g<w0.heap.size→ext≠some g→¬ (fun _:Nat=>False) g→jH w0 g n→jH w g n:=fun M w h g n _ hk he _ hr=>hr.eq (h.1.block g hk (fun e=>he e.symm))
def Ctx.plain (Z:Seat) (nt:Nat) (w0:World) (fg:Nat→Nat→Option Value) (ext:Option Nat):Ctx:=⟨Z,nt,w0,fg,ext,fun _=>False,fun _ _=>none,fun _=>0,fun _=>Go.undef,fun _=>False,false,none,j5 w0 ext,Dx w0 ext,Dy Z w0 ext,fun _=>false⟩
def aL:Own→Value→Option Nat
 |.none,_=>none
 |_,.pointer (some a)=>some a.block
 |_,.slice (some a) _ _=>some a.block
 |_,.map (some b)=>some b
 |_,_=>none
def eo (w:World) (base:Nat) (e:TypeId) (size:Nat) (v:Value) (n:Nat) (xs:List Value):Prop :=
 xs.length=n * size ∧
 ((v = .slice none 0 0 ∧ n = 0) ∨
  ∃ g off cap cur,v=.slice (some ⟨g,off,none⟩) n cap∧base≤g∧w.heap[g]?=some (.cells cur e (0,0))∧n≤cap∧cap≤maxLen∧off+cap * size≤cur.size∧(cur.toList.drop off).take (n * size)=xs)
theorem rT {w:World}{base:Nat}{e:TypeId}{size:Nat}{v:Value}{n:Nat}{xs:List Value} (h:w.ownsRow base e size v n xs):eo w base e size v n xs:=by
 refine ⟨h.1,?_⟩
 rcases h.2 with hn|⟨g,cap,cur,h1,h2,h3,h4,h5,h6,h7⟩
 ·exact .inl hn
 ·exact .inr ⟨g,0,cap,cur,h1,h2,h3,h4,h5,by omega,by simpa using h7⟩
theorem eo.kept {w w':World}{base:Nat}{e:TypeId}{size:Nat}{v:Value}{n:Nat}{xs:List Value} (h:eo w base e size v n xs) (hb:∀ b,v.ownBlock=some b→w'.heap[b]?=w.heap[b]?):eo w' base e size v n xs:=by
 refine ⟨h.1,?_⟩
 rcases h.2 with hn|⟨g,off,cap,cur,h1,h2,h3,rest⟩
 ·exact .inl hn
 ·exact .inr ⟨g,off,cap,cur,h1,h2,by rw[hb g (by rw[h1];rfl)];exact h3,rest⟩
theorem eo.lt {w:World}{base:Nat}{e:TypeId}{size:Nat}{v:Value}{n:Nat}{xs:List Value} (h:eo w base e size v n xs):∀ b,v.ownBlock=some b→base≤b∧b<w.heap.size:=fun b hb=>by
 rcases h.2 with ⟨h1,_⟩|⟨g,off,cap,cur,h1,h2,h3,_⟩
 ·rw[h1]at hb;cases hb
 ·rw[h1]at hb
  simp only[Value.ownBlock,Option.some.injEq]at hb
  subst hb
  exact⟨h2,(Array.getElem?_eq_some_iff.1 h3).1⟩
theorem eo.cells {w:World}{base:Nat}{e:TypeId}{size:Nat}{g off cap:Nat}{n:Nat}{xs:List Value} (h:eo w base e size (.slice (some ⟨g,off,none⟩) n cap) n xs):∀ j u,xs[j]?=some u→w.cell? ((⟨g,off,none⟩:Addr).add j)=some u:=fun j u hu=>by
 rcases h.2 with ⟨h1,_⟩|⟨g',sn,iO,cur,h1,h2,h3,h4,h5,h6,h7⟩
 ·cases h1
 ·simp only[Value.slice.injEq,Option.some.injEq,Addr.mk.injEq,and_true,true_and]at h1
  obtain ⟨⟨rfl,rfl⟩,rfl⟩:=h1
  have MB:(⟨g,off,none⟩:Addr).add j=⟨g,off+j,none⟩:=by unfold Addr.add;split<;>simp_all
  rw[MB,cell_of_row w g (off+j) cur e (0,0) h3]
  rw[← h7,List.getElem?_take]at hu
  split at hu
  ·simpa using hu
  ·cases hu
theorem qd (w:World) (base:Nat) (e:TypeId) (size:Nat):eo w base e size (.slice none 0 0) 0 []:=⟨by simp,.inl ⟨rfl,rfl⟩⟩
def pY (es:Array MapEntry) (l:List (Value×Value)):Prop:=es.toList.map (fun e=>(e.key,e.val))=l
def ov:Obj→Bool
 |.cells ..=>true
 |.map ..=>true
 |.stringIter ..=>true
 |_=>false
theorem M8 {o:Obj} (h:ov o=false):o.isCells=false:=by cases o<;>first|rfl|cases h
def fB (base:Nat) (κ:Nat→Nat→Option Value) (γ:Nat→Nat) (sv:Nat→Value) (w:World) (s:Nat):Own→Prop
 |.none=>True
 |.box l=>∃ b T cs,sv s=.pointer (some ⟨b,0,none⟩)∧w.heap[b]?=some (.cells (List.toArray cs) T (0,0))∧aD κ γ sv l cs∧BX l T
 |.arr T z n f=>∃ xs,eo w base T z (sv s) n xs∧(∀ i,i<n→(f i).length=z)∧(∀ i,i<n→aY (f i)=true)∧(∀ i,i<n→aD κ γ sv (f i) ((xs.drop (i * z)).take z))
 |.mp l=>∃ b es c,sv s=.map (some b)∧w.heap[b]?=some (.map es c)∧pY es l
 |.si t p=>∃ b,sv s=.pointer (some ⟨b,0,none⟩)∧w.heap[b]?=some (.stringIter t p)
structure cE (X:Ctx) (κ:Nat→Nat→Option Value) (sv:Nat→Value) (S:St) (w:World):Prop where
 gU:∀ b o v,κ b o=some v→w.cell? ⟨b,o,none⟩=some v
 own:∀ s,fB (X.base s) κ S.γ sv w s (S.σ s)
 inj:∀ s t b,aL (S.σ s) (sv s)=some b→aL (S.σ t) (sv t)=some b→s=t
 sep:∀ s b o,aL (S.σ s) (sv s)=some b→κ b o=none
 oI:∀ s b,aL (S.σ s) (sv s)=some b→X.w0.heap.size≤b∨X.ext=some b∨X.ex b
 frame:∃ M,X.Φ M w∧∀ s b,aL (S.σ s) (sv s)=some b→M b
 nU:∀ g l,X.Z.nU g=some l→aY l=true∧∃ u,aD κ S.γ sv l u∧∀ j v,u[j]?=some v→κ g j=some v
 nf:∀ b o v,b<X.w0.heap.size→κ b o=some v→X.fg b o=some v
 ba:∀ b,X.ext=some b→1≤S.γ 0∧(S.γ 0=1→sv 0=.pointer (some ⟨b,0,none⟩))
 base:X.w0.heap.size≤w.heap.size
 le:Le X.nR κ X.kY S.γ X.ny sv
 aw1:∀ b o v,κ b o=some v→¬ X.T b
 aw2:∀ s b,aL (S.σ s) (sv s)=some b→¬ X.T b
 PG:∀ b,X.T b→b<w.heap.size
 gz0:∀ g n,X.Z.zM g=some n→g<X.w0.heap.size∧X.ext≠some g∧¬ X.ex g∧jH X.w0 g n
theorem cE.lT {X:Ctx}{κ:Nat→Nat→Option Value}{sv:Nat→Value}{S:St}{w:World} (h:cE X κ sv S w) (s:Nat):X.base s≤w.heap.size:=Nat.le_trans (X.Gx s) h.base
def mark (D:Nat):Deferred:={ target:=.collected D,args:=#[] }
def jU (nd:Bool) (base:Nat) (a:Act) (w:World):Prop:=∃ Ds:List Nat,a.defers=Ds.map mark∧Ds.Nodup∧(∀ D∈Ds,base≤D∧w.heap[D]?=some (.deferred (some [])))∧(nd=true→Ds=[])
theorem jU.nil {nd:Bool}{base:Nat}{a:Act}{w:World} (h:a.defers=[]):jU nd base a w:=⟨[],by simpa using h,List.nodup_nil,fun _ h=>(by cases h),fun _=>rfl⟩
theorem jU.put {nd:Bool}{base:Nat}{a:Act}{w:World} (h:jU nd base a w) (dst:Option Nat) (v:Value):jU nd base (a.put dst v) w:=by cases dst<;>exact h
theorem jU.step {nd:Bool}{base:Nat}{a:Act}{w w':World} (h:jU nd base a w) (hs:∀ (k:Nat) (o:Obj),w.heap[k]?=some o→ov o=false→w'.heap[k]?=some o):jU nd base a w' :=
 let ⟨Ds,h1,h2,h3,h4⟩:=h
 ⟨Ds,h1,h2,fun D hD=>⟨(h3 D hD).1,hs D _ (h3 D hD).2 rfl⟩,h4⟩
theorem jU.later {nd:Bool}{base:Nat}{a:Act}{w w':World} (h:jU nd base a w) (hb:Below w.heap.size w w'):jU nd base a w':=h.step fun k o hk _=>by
 rw[hb.block k (Array.getElem?_eq_some_iff.1 hk).1];exact hk
theorem jU.grown {nd:Bool}{base:Nat}{a:Act}{w w':World}{row:Option Nat} (h:jU nd base a w) (hg:w.grownBy w' row) (hr:∀ b,row=some b→∃ o:Obj,w.heap[b]?=some o∧ov o=true):jU nd base a w':=h.step fun k o hk ho=>by
 rw[hg.block k (Array.getElem?_eq_some_iff.1 hk).1 (fun e=>by
  obtain ⟨o',h1,h2⟩:=hr k e.symm
  rw[hk]at h1;cases h1;rw[ho]at h2;cases h2)]
 exact hk
structure bk (X:Ctx) (κ:Nat→Nat→Option Value) (sv:Nat→Value) (S:St) (a:Act) (w:World):Prop where
 size:a.tmps.size=X.nt
 defers:jU X.nd X.w0.heap.size a w
 slot:∀ i,i<X.nt→aW κ S.γ sv (S.ρ i) (a.tmps.getD i Go.undef)
 aJ:cE X κ sv S w
def lift (X:Ctx) (Q:Exit→St→Prop):Exit→Act→World→Prop:=fun e a w=>∃ κ sv S,bk X κ sv S a w∧Q e S
def W (X:Ctx) (c:Code) (Q:Exit→St→Prop) (S:St):Prop:=∀ κ sv a w,bk X κ sv S a w→c.wpIn X.F 0 X.Z.P (lift X Q) a w
def WL (X:Ctx) (ops:Array Oper) (l:List Oper) (Q:Exit→St→Prop) (S:St):Prop:=∀ κ sv a w,bk X κ sv S a w→wpListIn X.F 0 X.Z.P ops (lift X Q) l a w
section control
variable {X:Ctx}{Q:Exit→St→Prop}{S:St}
def aeD (K:St→Prop) (Q:Exit→St→Prop):Exit→St→Prop
 |.normal,S=>K S
 |e,S=>Q e S
def KU (id:Nat) (Q:Exit→St→Prop):Exit→St→Prop
 |.exit i,S=>bif Nat.beq i id then Q .normal S else Q (.exit i) S
 |e,S=>Q e S
theorem fM {c:Code}{Q':Exit→St→Prop} (h:W X c Q S) (hq:∀ e S,Q e S→Q' e S):W X c Q' S :=
 fun κ sv a w hs=>wpIn_mono (h κ sv a w hs) (fun _ _ _ ⟨aA,aQ,S',h1,h2⟩=>⟨aA,aQ,S',h1,hq _ _ h2⟩)
theorem am0 {x y:Code} (h:W X x (aeD (W X y Q) Q) S):W X (.seq x y) Q S:=fun κ sv a w hs=>by
 refine wpIn_seq (wpIn_mono (h κ sv a w hs) ?_)
 rintro e a' w' ⟨aA,aQ,S',h1,h2⟩
 cases e<;>first|exact h2 aA aQ a' w' h1|exact⟨aA,aQ,S',h1,h2⟩
theorem ahs (h:Q .normal S):W X .skip Q S:=fun κ sv _ _ hs=>wpIn_skip ⟨κ,sv,S,hs,h⟩
theorem ahq {id:Nat} (h:Q (.exit id) S):W X (.exit id) Q S:=fun κ sv _ _ hs=>wpIn_exit ⟨κ,sv,S,hs,h⟩
theorem amZ (h:Q .ret S):W X .ret Q S:=fun κ sv _ _ hs=>wpIn_ret ⟨κ,sv,S,hs,h⟩
theorem aeM {id:Nat}{c:Code} (h:W X c (KU id Q) S):W X (.block id c) Q S:=fun κ sv a w hs=>by
 refine wpIn_block (wpIn_mono (h κ sv a w hs) ?_)
 rintro e a' w' ⟨aA,aQ,S',h1,h2⟩
 cases e with
 |exit i =>
  simp only[Exit.inBlock]
  simp only[KU]at h2
  split
  ·rename_i e;subst e;rw[Nat.beq_refl]at h2;exact⟨aA,aQ,S',h1,h2⟩
  ·rename_i e
   have:Nat.beq i id=false:=by
    cases hb:Nat.beq i id
    ·rfl
    ·exact absurd (Nat.eq_of_beq_eq_true hb) e
   rw[this]at h2;exact⟨aA,aQ,S',h1,h2⟩
 |_=>exact⟨aA,aQ,S',h1,h2⟩
def Wk (X:Ctx) (S S':St):Prop:=∀ κ sv a w,bk X κ sv S a w→∃ aA aQ,bk X aA aQ S' a w
theorem Wk.refl (X:Ctx) (S:St):Wk X S S:=fun κ sv _ _ h=>⟨κ,sv,h⟩
theorem Wk.trans {S1 S2 S3:St} (h:Wk X S1 S2) (h':Wk X S2 S3):Wk X S1 S3:=fun κ sv a w hs =>
 let ⟨aA,aQ,fN⟩:=h κ sv a w hs
 h' aA aQ a w fN
theorem Sk {c:Code}{S':St} (hw:Wk X S S') (h:W X c Q S'):W X c Q S:=fun κ sv a w hs =>
 let ⟨aA,aQ,fN⟩:=hw κ sv a w hs
 h aA aQ a w fN
theorem Jh {ops:Array Oper}{l:List Oper}{S':St} (hw:Wk X S S') (h:WL X ops l Q S'):WL X ops l Q S:=fun κ sv a w hs =>
 let ⟨aA,aQ,fN⟩:=hw κ sv a w hs
 h aA aQ a w fN
theorem ahr {c:Code}{α:Type} (F:α→St) (inv:α→Prop) (μ:α→Nat) (x0:α) (h0:inv x0) (hs:Wk X S (F x0))
  (round:∀ x,inv x→W X c (aeD (fun S'=>∃ x',inv x'∧μ x'<μ x∧Wk X S' (F x')) Q) (F x)):W X (.loop c) Q S:=by
 intro κ sv a w fK
 have key:∀ n x κ sv a w,inv x→μ x<n→bk X κ sv (F x) a w→Code.roundsIn X.F 0 X.Z.P c (lift X Q) n a w:=by
  intro n
  induction n with
  |zero=>intro x κ sv a w _ h;omega
  |succ n ih =>
   intro x κ sv a w hi hm hx
   rw[roundsIn_succ]
   refine wpIn_mono (round x hi κ sv a w hx) ?_
   rintro e a' w' ⟨aA,aQ,S',h1,h2⟩
   cases e with
   |normal =>
    obtain ⟨x',df,hm',hw⟩:=h2
    obtain ⟨fh,fI,Fm⟩:=hw aA aQ a' w' h1
    exact ih x' fh fI a' w' df (by omega) Fm
   |_=>exact⟨aA,aQ,S',h1,h2⟩
 obtain ⟨vh,RL,hx⟩:=hs κ sv a w fK
 exact wpIn_loop_rounds (μ x0+1) (key _ x0 vh RL a w h0 (Nat.lt_succ_self _) hx)
theorem ZZ {id:Nat}{l:List Oper} (h:WL X l.toArray l Q S):W X (.region id l.toArray false) Q S:=fun κ sv a w hs=>wpIn_region_lit (h κ sv a w hs)
theorem KM {ops:Array Oper} (h:Q .normal S):WL X ops [] Q S:=fun κ sv _ _ hs=>wpListIn_nil ⟨κ,sv,S,hs,h⟩
end control
def Rf:Value→D
 |.int k n=>.int k n
 |.bool b=>.bool b
 |.string s=>.str s
 |.slice none 0 0=>.nil
 |.nilIface=>.lk .ni
 |.pointer none=>.lk .np
 |_=>.undef
def Yq:Value→D
 |.agg cs=>.agg (cs.toList.map Rf)
 |v=>Rf v
def St.ev (S:St) (X:Ctx):Operand→D
 |.tmp t=>bif Nat.blt t X.nt then S.ρ t else .undef
 |.const v=>Yq v
 |.global g=>match X.Z.nU g with|some l=>.rp l 0|none=>.undef
 |.func f=>.fn f []
section
variable {X:Ctx}{κ:Nat→Nat→Option Value}{sv:Nat→Value}{S:St}{a:Act}{w:World}
theorem Rx {γ:Nat→Nat} (v:Value):aW κ γ sv (Rf v) v:=by
 unfold Rf
 split<;>first|exact .int _ _|exact .bool _|exact .str _|exact .nil|exact .lk _ _ rfl|exact .undef _
theorem agU {γ:Nat→Nat} (v:Value):aW κ γ sv (Yq v) v:=by
 unfold Yq
 split
 ·rename_i cs
  have:aD κ γ sv (cs.toList.map Rf) cs.toList:=by
   generalize cs.toList=l
   induction l with
   |nil=>exact .nil
   |cons x l ih=>exact .cons _ _ _ _ (Rx x) ih
  have h:=aW.agg _ _ this
  simpa using h
 ·exact Rx _
theorem bk.ev (h:bk X κ sv S a w) (x:Operand):aW κ S.γ sv (S.ev X x) (a.eval x):=by
 cases x with
 |tmp t =>
  simp only[St.ev,Act.eval]
  cases hb:Nat.blt t X.nt with
  |false=>exact .undef _
  |true=>exact h.slot t (by simpa[Nat.blt_eq] using hb)
 |const v=>exact agU v
 |func f=>exact .fn f [] [] .nil
 |global g =>
  simp only[St.ev,Act.eval]
  cases hg:X.Z.nU g with
  |none=>exact .undef _
  |some l =>
   obtain ⟨hc,u,h1,h2⟩:=h.aJ.nU g l hg
   have:=aW.rp (κ:=κ) (γ:=S.γ) (sv:=sv) l 0 g 0 u hc h1 (fun j v hj=>by simpa using h2 j v hj)
   simpa using this
theorem cE.BM {S':St} (h:cE X κ sv S w) (dk:S'.γ=S.γ) (aF:S'.σ=S.σ):cE X κ sv S' w:=by
 obtain ⟨h1,h2,h3,h4,h5,h6,h7,h8,h9,fT,iD,jz,jm,gK,kA⟩:=h
 exact⟨h1,by rw[dk,aF];exact h2,by rw[aF];exact h3,by rw[aF];exact h4,by rw[aF];exact h5,by rw[aF];exact h6,by rw[dk];exact h7,h8,by rw[dk];exact h9,fT,by rw[dk];exact iD,jz,by rw[aF];exact jm,gK,kA⟩
theorem Df (t:Array Value) (i j:Nat) (v d:Value):(t.setIfInBounds i v).getD j d=if i=j∧j<t.size then v else t.getD j d:=by
 simp only[Array.getD_eq_getD_getElem?,Array.getElem?_setIfInBounds]
 by_cases h:i=j
 ·subst h
  by_cases h2:i<t.size<;>simp[h2]
 ·simp[h]
theorem bk.put (h:bk X κ sv S a w) (dst:Option Nat) {d:D}{v:Value} (hd:aW κ S.γ sv d v):bk X κ sv (S.put dst d) (a.put dst v) w:=by
 cases dst with
 |none=>exact h
 |some i =>
  refine ⟨by simp[Act.put,h.size],h.defers.put (some i) v,fun j hj=>?_,h.aJ.BM rfl rfl⟩
  simp only[St.put,St.set,Act.put,Df]
  by_cases e:i=j
  ·subst e;rw[if_pos ⟨rfl,by rw[h.size];exact hj⟩,aC];exact hd
  ·rw[if_neg (by intro h';exact e h'.1),bh _ _ _ _ (fun h'=>e h'.symm)];exact h.slot j hj
theorem cE.later {w':World} (h:cE X κ sv S w) (hb:Below w.heap.size w w'):cE X κ sv S w':=by
 obtain ⟨h1,h2,h3,h4,h5,⟨M,h6,vX⟩,h7,h8,h9,fT,iD,jz,jm,gK,kA⟩:=h
 refine ⟨fun b o v hk=>?_,fun s=>?_,h3,h4,h5,⟨_,X.cl M w w' h6 ⟨hb.os,hb.tape,hb.output,hb.size,fun k hk _=>hb.block k hk⟩,fun s b h=>.inl (vX s b h)⟩,h7,h8,h9,Nat.le_trans fT hb.size,iD,jz,jm,fun b h=>Nat.lt_of_lt_of_le (gK b h) hb.size,kA⟩
 ·have:=h1 b o v hk
  exact(hb.cell (World.block_lt_of_cell? w _ this)).trans this
 ·have:=h2 s
  cases hs:S.σ s with
  |none=>trivial
  |box l =>
   rw[hs]at this
   obtain ⟨b,T,cs,e1,e2,e3,e4⟩:=this
   refine ⟨b,T,cs,e1,?_,e3,e4⟩
   rw[hb.block b (Array.getElem?_eq_some_iff.1 e2).1];exact e2
  |arr T z n f =>
   rw[hs]at this
   obtain ⟨xs,e1,e2⟩:=this
   exact⟨xs,e1.kept fun b bz=>hb.block b (e1.lt b bz).2,e2⟩
  |mp l =>
   rw[hs]at this
   obtain ⟨b,es,c,e1,e2,e3⟩:=this
   refine ⟨b,es,c,e1,?_,e3⟩
   rw[hb.block b (Array.getElem?_eq_some_iff.1 e2).1];exact e2
  |si t p =>
   rw[hs]at this
   obtain ⟨b,e1,e2⟩:=this
   refine ⟨b,e1,?_⟩
   rw[hb.block b (Array.getElem?_eq_some_iff.1 e2).1];exact e2
theorem bk.later {w':World} (h:bk X κ sv S a w) (hb:Below w.heap.size w w'):bk X κ sv S a w':=⟨h.size,h.defers.later hb,h.slot,h.aJ.later hb⟩
theorem Sq (w:World):Below w.heap.size w { w with drawn:=w.drawn+1 }:=⟨rfl,rfl,rfl,Nat.le_refl _,fun _ _=>rfl⟩
end
def dy (X:Ctx) (o:Oper) (S:St) (d:D):Prop:=∀ κ sv a w,bk X κ sv S a w →
 ∃ v,aW κ S.γ sv d v∧∀ w',Below w.heap.size w w'→(execOp a.eval o).run X.Z.P w'=.ok (.value v) w'
section
variable {X:Ctx}{Q:Exit→St→Prop}{S:St}{ops:Array Oper}{o:Oper}{rest:List Oper}
theorem Ou {ro:Option Nat}{ρ:Operand→Value}{P:Program}{w w':World}{n:Next} (h:(execOp ρ o).run P w=.ok n w') (hn:∀ d,n≠.defer d):(o.semAt ro ρ).run P w=.ok n w':=by
 rw[Oper.semAt_eq]
 ·exact h
 ·intro c hc
  have:execOp ρ o=(do pure (.defer (← resolve ρ c o.type))):=by unfold execOp;rw[hc]
  rw[this]at h
  simp only[Sem.run_bind]at h
  cases hr:(resolve ρ c o.type).run P w with
  |ok d w1=>rw[hr]at h;simp at h;exact hn d h.1.symm
  |halt x w1=>rw[hr]at h;simp at h
theorem qD {a:Act}{w:World}:∀ f,o.about X.Z.P w a.eval=some f→X.F.fn f:=fun _ _=>trivial
theorem wv {a:Act}{w w':World}{v:Value}{K:Act→World→Prop}{Qw:Exit→Act→World→Prop} (h:(execOp a.eval o).run X.Z.P w=.ok (.value v) w') (hk:K (a.put o.dst v) w'):o.wpIn X.F 0 X.Z.P a w K Qw:=by
 refine ⟨qD,?_⟩
 rw[Ou h (fun d=>by simp)];exact hk
theorem Rk {a:Act}{w w':World}{K:Act→World→Prop}{Qw:Exit→Act→World→Prop} (h:(execOp a.eval o).run X.Z.P w=.ok .skip w') (hk:K (a.put o.dst Go.undef) w'):o.wpIn X.F 0 X.Z.P a w K Qw:=by
 refine ⟨qD,?_⟩
 rw[Ou h (fun d=>by simp)];exact hk
theorem PJ {n:Nat}{P:Program}{f:FuncId}{args:Array Value}{w:World}{R:Ending→World→Prop} (h:Calls P f args w R):CallsIn X.F n P f args w R:=by
 have h1:=callsIn_wide (n:=n).2 h
 unfold Ctx.F
 cases X.ro with
 |none=>exact h1
 |some l=>exact CallsIn.inRound l h1
theorem lO {a:Act}{w:World}{f:FuncId}{args:Array Value}{R:Ending→World→Prop}{K:Act→World→Prop}{Qw:Exit→Act→World→Prop} (h:(execOp a.eval o).run X.Z.P w=.ok (.enter f args) w) (hc:Calls X.Z.P f args w R)
  (hR:∀ e w',R e w'→∃ v,e=.returned v∧K (a.put o.dst v) w'):o.wpIn X.F 0 X.Z.P a w K Qw:=by
 refine ⟨qD,?_⟩
 rw[Ou h (fun d=>by simp)]
 refine ⟨fun h=>(by simp[Ctx.F,Fence.wide]at h),(PJ hc).mono ?_⟩
 intro e w' hr
 obtain ⟨v,rfl,hk⟩:=hR e w' hr
 exact hk
theorem vf {κ:Nat→Nat→Option Value}{sv:Nat→Value}{a:Act}{w:World} (hs:bk X κ sv S a w) {j t:Nat}{b c:Bool} (hg:o.guard=some (j,b))
  (hj:(ops[j]?).bind (·.dst)=some t) (hb:S.ev X (.tmp t)=.bool c):Region.wanted o (yielded ops a.tmps)=(c == b):=by
 have h1:=hs.ev (.tmp t)
 rw[hb]at h1
 have h2:a.tmps.getD t Go.undef=.bool c:=by
  cases h:a.tmps.getD t Go.undef<;>simp only[Act.eval,h]at h1<;>first|(cases h1;rfl)|cases h1
 have h3:a.tmps[t]?=some (.bool c):=by
  rw[Array.getD_eq_getD_getElem?]at h2
  cases h:a.tmps[t]? with
  |none=>rw[h]at h2;simp[Go.undef]at h2
  |some v=>rw[h]at h2;simpa using h2
 unfold Region.wanted
 rw[hg]
 simp only[yielded,hj,Option.bind_some,h3]
 cases b<;>cases c<;>rfl
theorem ahm {j t:Nat}{b:Bool} (hg:o.guard=some (j,b)) (hj:(ops[j]?).bind (·.dst)=some t) (hb:S.ev X (.tmp t)=.bool b)
  (hk:WL X ops ({ o with guard:=none }::rest) Q S):WL X ops (o::rest) Q S:=fun κ sv a w hs=>by
 have hw:=vf hs hg hj hb
 have h:=hk κ sv a w hs
 unfold wpListIn at h ⊢
 rw[if_pos (by rw[hw];simp)]
 rw[if_pos (by simp[Region.wanted])]at h
 exact h
theorem aeO {c:Operand}{x y:Code} (hc:S.ev X c=.bool true) (h:W X x Q S):W X (.cond c x y) Q S:=fun κ sv a w hs=>by
 have h1:=hs.ev c
 rw[hc]at h1
 have:a.eval c=.bool true:=by generalize a.eval c=v at h1;cases h1;rfl
 exact wpIn_cond_true this (h κ sv a w hs)
theorem aeN {c:Operand}{x y:Code} (hc:S.ev X c=.bool false) (h:W X y Q S):W X (.cond c x y) Q S:=fun κ sv a w hs=>by
 have h1:=hs.ev c
 rw[hc]at h1
 have:a.eval c=.bool false:=by generalize a.eval c=v at h1;cases h1;rfl
 exact wpIn_cond_false this (h κ sv a w hs)
end
end Go.Ab
namespace Go.Ab
open Go Go.RowKit
theorem du {P:Program}{t:TypeId}{r:dM} (h:kt P t r=true):∃ i d,P.info? t=some i∧P.underlying t=some d∧i.size=r.sz∧i.bytes=r.bytes ∧
  (∃ v,i.zero=some v∧Zr.xu r.zs v.cells.toList=true) ∧
  (match d with
   |.struct fs=>r.k=1∧fs.toList.map (fun f=>(f.offset,P.cellsOf f.type,nA P f.type))=r.fl∧fs.toList.all (fun f=>(P.info? f.type).isSome&&(P.underlying f.type).isSome)=true
   |.array n e=>r.k=2∧n=r.ln∧e=r.el
   |.slice e=>r.k=3∧e=r.el
   |_=>r.k=0):=by
 unfold kt at h
 split at h
 ·rename_i i d hi hd
  simp only[Bool.and_eq_true,beq_iff_eq]at h
  obtain ⟨⟨⟨h1,h2⟩,h3⟩,h4⟩:=h
  refine ⟨i,d,hi,hd,h1,h2,?_,?_⟩
  ·cases hz:i.zero with
   |none=>rw[hz]at h3;cases h3
   |some v=>rw[hz]at h3;exact⟨v,rfl,h3⟩
  ·cases d<;>simp_all
 ·cases h
theorem nx {P:Program}{t:TypeId}{d:TypeDesc} (hd:P.underlying t=some d) (w:World):(isAgg t).run P w=.ok (nA P t) w:=by
 unfold isAgg nA
 rw[hd]
 cases d<;>simp[run_underlying hd]
theorem Bf {P:Program}{t:TypeId}{r:dM} (h:kt P t r=true):nA P t=(Nat.beq r.k 1 || Nat.beq r.k 2):=by
 obtain ⟨i,d,_,hd,_,_,_,h4⟩:=du h
 unfold nA
 rw[hd]
 cases d<;>first|(obtain ⟨h,_⟩:=h4;rw[h];rfl)|(have h:r.k=0:=h4;rw[h];rfl)
theorem run_sizeOf {P:Program}{t:TypeId}{i:TypeInfo} (hi:P.info? t=some i) (w:World):(sizeOf t).run P w=.ok i.size w:=by simp[sizeOf,typeInfo,hi]
theorem Ea {P:Program}{t:TypeId}{i:TypeInfo} (hi:P.info? t=some i):P.cellsOf t=i.size:=by simp[Program.cellsOf,hi]
theorem addr_add (b o n:Nat):(⟨b,o,none⟩:Addr).add n=⟨b,o+n,none⟩:=by
 unfold Addr.add;split<;>simp_all
def takeN:Nat→List D→Option (List D)
 |0,_=>some []
 |n+1,d::l=>match takeN n l with
  |some m=>some (d::m)
  |none=>none
 |_+1,[]=>none
theorem oS:∀ {n:Nat}{l m:List D},takeN n l=some m→m=l.take n∧n≤l.length
 |0,l,m,h=>by simp[takeN]at h;simp[h]
 |n+1,[],m,h=>by simp[takeN]at h
 |n+1,d::l,m,h=>by
  unfold takeN at h
  cases h1:takeN n l with
  |none=>rw[h1]at h;cases h
  |some m' =>
  rw[h1]at h
  simp only[Option.some.injEq]at h
  subst h
  obtain ⟨e,hl⟩:=oS h1
  exact⟨by simp[e],by simp;omega⟩
def k6:Nat→List D→List D
 |0,l=>l
 |n+1,_::l=>k6 n l
 |_+1,[]=>[]
theorem oy:∀ (n:Nat) (l:List D),k6 n l=l.drop n
 |0,l=>by simp[k6]
 |n+1,[]=>by simp[k6]
 |n+1,d::l=>by simp[k6,oy n l]
section
variable {P:Program}{w:World}{t:TypeId}{r:dM}
theorem lj (hr:kt P t r=true) (hk:(Nat.beq r.k 1 || Nat.beq r.k 2)=false) {a:Addr}{v:Value} (h:w.cell? a=some v):(loadVar t a).run P w=.ok v w:=by
 obtain ⟨i,d,hi,hd,_⟩:=du hr
 simp[loadVar,nx hd,Bf hr,hk,h]
theorem l9 (hr:kt P t r=true) (hk:(Nat.beq r.k 1 || Nat.beq r.k 2)=true) {b o:Nat}{vs:List Value} (hl:vs.length=r.sz) (h:∀ j v,vs[j]?=some v→w.cell? ⟨b,o+j,none⟩=some v) :
  (loadVar t ⟨b,o,none⟩).run P w=.ok (.agg vs.toArray) w:=by
 obtain ⟨i,d,hi,hd,hs,_⟩:=du hr
 have:=run_loadCells_list (P:=P) w ⟨b,o,none⟩ vs (fun j v hj=>by rw[addr_add];exact h j v hj)
 rw[hl,← hs]at this
 simp[loadVar,nx hd,Bf hr,hk,run_sizeOf hi,this]
end
section
variable {X:Ctx}{S:St}{o:Oper}{r:dM}{T:TypeId}
theorem Y5 {x:Operand}{d:D} (ho:o.op=.move x) (hd:S.ev X x=d):dy X o S d:=fun κ sv a w hs =>
 ⟨a.eval x,hd ▸ hs.ev x,fun w' _=>by simp[execOp,ho]⟩
theorem N6 {x:Operand}{d:D} (ho:o.op=.assign x) (hd:S.ev X x=d):dy X o S d:=fun κ sv a w hs =>
 ⟨a.eval x,hd ▸ hs.ev x,fun w' _=>by simp[execOp,ho]⟩
theorem DJ {κ:Nat→Nat→Option Value}{γ:Nat→Nat}{sv:Nat→Value}{b:Bool}{v:Value} (h:aW κ γ sv (.bool b) v):v=.bool b:=by cases h;rfl
theorem pk {κ:Nat→Nat→Option Value}{γ:Nat→Nat}{sv:Nat→Value}{k:IntKind}{n:Int}{v:Value} (h:aW κ γ sv (.int k n) v):v=.int k n:=by cases h;rfl
theorem agV {κ:Nat→Nat→Option Value}{γ:Nat→Nat}{sv:Nat→Value}{s:ByteArray}{v:Value} (h:aW κ γ sv (.str s) v):v=.string s:=by cases h;rfl
theorem agR {c x y:Operand}{d:D} (ho:o.op=.pick c x y) (hc:S.ev X c=.bool true) (hd:S.ev X x=d):dy X o S d:=fun κ sv a w hs =>
 ⟨a.eval x,hd ▸ hs.ev x,fun w' _=>by
  have:=DJ (hc ▸ hs.ev c)
  simp[execOp,ho,this,asBool]⟩
theorem agQ {c x y:Operand}{d:D} (ho:o.op=.pick c x y) (hc:S.ev X c=.bool false) (hd:S.ev X y=d):dy X o S d:=fun κ sv a w hs =>
 ⟨a.eval y,hd ▸ hs.ev y,fun w' _=>by
  have:=DJ (hc ▸ hs.ev c)
  simp[execOp,ho,this,asBool]⟩
theorem an3 {x:Operand}{l:List D}{j:Nat}{d:D} (ho:o.op=.load T x) (hx:S.ev X x=.rp l j) (hr:nth X.Z.bL T=some r) (hk:(Nat.beq r.k 1 || Nat.beq r.k 2)=false)
  (h9:Nat.beq r.k 9=false) (hd:nth l j=some d):dy X o S d:=fun κ sv a w hs=>by
 have cj:=X.Z.bG _ _ hr (by intro e;rw[e]at h9;cases h9)
 have h1:=hs.ev x
 rw[hx]at h1
 generalize he:a.eval x=v at h1
 cases h1 with
 |rp _ _ b off u _ hu bQ =>
  rw[eU]at hd
  obtain ⟨vj,hv,cq⟩:=hu.get hd
  refine ⟨vj,cq,fun w' hb=>?_⟩
  have hc:=hs.aJ.gU _ _ _ (bQ j vj hv)
  have lB:w'.cell? ⟨b,off+j,none⟩=some vj:=(hb.cell (World.block_lt_of_cell? w _ hc)).trans hc
  simp[execOp,ho,he,Instr.loadAt,Instr.sureAddr,lj cj hk lB]
theorem als {x:Operand}{l m:List D}{j:Nat} (ho:o.op=.load T x) (hx:S.ev X x=.rp l j) (hr:nth X.Z.bL T=some r) (hk:(Nat.beq r.k 1 || Nat.beq r.k 2)=true)
  (h9:Nat.beq r.k 9=false) (hm:takeN r.sz (k6 j l)=some m):dy X o S (.agg m):=fun κ sv a w hs=>by
 have cj:=X.Z.bG _ _ hr (by intro e;rw[e]at h9;cases h9)
 have h1:=hs.ev x
 rw[hx]at h1
 generalize he:a.eval x=v at h1
 cases h1 with
 |rp _ _ b off u _ hu bQ =>
  obtain ⟨rfl,hl⟩:=oS hm
  rw[oy]at hl ⊢
  have we:=(hu.drop j).take r.sz
  refine ⟨_,.agg _ _ we,fun w' hb=>?_⟩
  have hlen:((u.drop j).take r.sz).length=r.sz:=by rw[we.length];simp at hl ⊢;omega
  have ou:∀ i v,((u.drop j).take r.sz)[i]?=some v→w'.cell? ⟨b,off+j+i,none⟩=some v:=by
   intro i v hi
   have:u[j+i]?=some v:=by
    rw[List.getElem?_take]at hi
    split at hi
    ·simpa using hi
    ·cases hi
   have hc:=hs.aJ.gU _ _ _ (bQ _ v this)
   rw[Nat.add_assoc]
   exact(hb.cell (World.block_lt_of_cell? w _ hc)).trans hc
  simp[execOp,ho,he,Instr.loadAt,Instr.sureAddr,l9 cj hk hlen ou]
theorem D7 {κ:Nat→Nat→Option Value}{sv:Nat→Value}{a:Act}{w:World} (hs:bk X κ sv S a w) {x:Operand}{s g j:Nat}{l:List D} (hx:S.ev X x=.bx s g j) (hg:S.γ s=g) (aF:S.σ s=.box l) :
  ∃ b T cs,a.eval x=.pointer (some ⟨b,j,none⟩)∧sv s=.pointer (some ⟨b,0,none⟩)∧w.heap[b]?=some (.cells (List.toArray cs) T (0,0))∧aD κ S.γ sv l cs∧BX l T:=by
 have h1:=hs.ev x
 rw[hx]at h1
 have h2:=hs.aJ.own s
 rw[aF]at h2
 obtain ⟨b,T,cs,e1,e2,e3,e4⟩:=h2
 generalize he:a.eval x=v at h1
 cases h1 with
 |bx _ _ _ _ _ hh _ =>
  obtain ⟨b',h3,h4⟩:=hh hg.symm
  rw[e1]at h3
  simp only[Value.pointer.injEq,Option.some.injEq,Addr.mk.injEq,and_true]at h3
  subst h3
  exact⟨b,T,cs,h4,e1,e2,e3,e4⟩
theorem mF {κ:Nat→Nat→Option Value}{sv:Nat→Value}{a:Act}{w:World} (hs:bk X κ sv S a w) {x:Operand}{s g j:Nat}{l:List D} (hx:S.ev X x=.bx s g j) (hg:S.γ s=g) (aF:S.σ s=.box l) :
  ∃ b T cs,a.eval x=.pointer (some ⟨b,j,none⟩)∧sv s=.pointer (some ⟨b,0,none⟩)∧w.heap[b]?=some (.cells (List.toArray cs) T (0,0))∧aD κ S.γ sv l cs∧aY l=true:=by
 obtain ⟨b,T,cs,h1,h2,h3,h4,h5⟩:=D7 hs hx hg aF
 exact⟨b,T,cs,h1,h2,h3,h4,h5.1⟩
theorem an1 {x:Operand}{s g j:Nat}{l:List D}{d:D} (ho:o.op=.load T x) (hx:S.ev X x=.bx s g j) (hr:nth X.Z.bL T=some r) (hk:(Nat.beq r.k 1 || Nat.beq r.k 2)=false)
  (h9:Nat.beq r.k 9=false) (hg:S.γ s=g) (aF:S.σ s=.box l) (hd:nth l j=some d):dy X o S d:=fun κ sv a w hs=>by
 have cj:=X.Z.bG _ _ hr (by intro e;rw[e]at h9;cases h9)
 obtain ⟨b,Tb,cs,he,_,hh,cq,_⟩:=mF hs hx hg aF
 rw[eU]at hd
 obtain ⟨vj,hv,wb⟩:=cq.get hd
 refine ⟨vj,wb,fun w' hb=>?_⟩
 have tD:w'.heap[b]?=some (.cells (List.toArray cs) Tb (0,0)):=by rw[hb.block b (Array.getElem?_eq_some_iff.1 hh).1];exact hh
 have lB:w'.cell? ⟨b,j,none⟩=some vj:=by rw[cell_of_row w' b j _ _ _ tD];simpa using hv
 simp[execOp,ho,he,Instr.loadAt,Instr.sureAddr,lj cj hk lB]
theorem alp {x:Operand}{s g j:Nat}{l m:List D} (ho:o.op=.load T x) (hx:S.ev X x=.bx s g j) (hr:nth X.Z.bL T=some r) (hk:(Nat.beq r.k 1 || Nat.beq r.k 2)=true)
  (h9:Nat.beq r.k 9=false) (hg:S.γ s=g) (aF:S.σ s=.box l) (hm:takeN r.sz (k6 j l)=some m):dy X o S (.agg m):=fun κ sv a w hs=>by
 have cj:=X.Z.bG _ _ hr (by intro e;rw[e]at h9;cases h9)
 obtain ⟨b,Tb,cs,he,_,hh,cq,_⟩:=mF hs hx hg aF
 obtain ⟨rfl,hl⟩:=oS hm
 rw[oy]at hl ⊢
 have we:=(cq.drop j).take r.sz
 refine ⟨_,.agg _ _ we,fun w' hb=>?_⟩
 have tD:w'.heap[b]?=some (.cells (List.toArray cs) Tb (0,0)):=by rw[hb.block b (Array.getElem?_eq_some_iff.1 hh).1];exact hh
 have hlen:((cs.drop j).take r.sz).length=r.sz:=by rw[we.length];simp at hl ⊢;omega
 have ou:∀ i v,((cs.drop j).take r.sz)[i]?=some v→w'.cell? ⟨b,j+i,none⟩=some v:=by
  intro i v hi
  rw[cell_of_row w' b _ _ _ _ tD]
  rw[List.getElem?_take]at hi
  split at hi
  ·simpa using hi
  ·cases hi
 simp[execOp,ho,he,Instr.loadAt,Instr.sureAddr,l9 cj hk hlen ou]
theorem yX {κ:Nat→Nat→Option Value}{sv:Nat→Value}{a:Act}{w:World} (hs:bk X κ sv S a w) {x:Operand}{s g z i j:Nat}{E n:Nat}{f:Nat→List D} (hx:S.ev X x=.op s g z i j) (hg:S.γ s=g) (aF:S.σ s=.arr E z n f) (hi:i<n) :
  ∃ b off cap xs,a.eval x=.pointer (some ⟨b,off+(i * z+j),none⟩)∧sv s=.slice (some ⟨b,off,none⟩) n cap∧eo w (X.base s) E z (sv s) n xs∧(f i).length=z∧aY (f i)=true∧aD κ S.γ sv (f i) ((xs.drop (i * z)).take z) ∧
   ∀ w',Below w.heap.size w w'→∀ k v,k<z→xs[i * z+k]?=some v→w'.cell? ⟨b,off+(i * z+k),none⟩=some v:=by
 have h1:=hs.ev x
 rw[hx]at h1
 have h2:=hs.aJ.own s
 rw[aF]at h2
 obtain ⟨xs,e1,e2,e3,e4⟩:=h2
 generalize he:a.eval x=v at h1
 cases h1 with
 |op _ _ _ _ _ _ _ hh _ =>
  obtain ⟨b,off,n',cap,h3,h4⟩:=hh hg.symm
  have e1':=e1
  obtain ⟨hlen,Fe⟩:=e1'
  rcases Fe with ⟨hv,hn⟩|⟨gb,sn,iO,cur,hv,dj,kq,iX,rP,kC,gR⟩
  ·omega
  ·rw[h3]at hv
   simp only[Value.slice.injEq,Option.some.injEq,Addr.mk.injEq,and_true]at hv
   obtain ⟨⟨rfl,rfl⟩,rfl,rfl⟩:=hv
   refine ⟨b,off,cap,xs,h4,h3,e1,e2 i hi,e3 i hi,e4 i hi,fun w' hb k v hk hv=>?_⟩
   have tD:w'.heap[b]?=some (.cells cur E (0,0)):=by rw[hb.block b (Array.getElem?_eq_some_iff.1 kq).1];exact kq
   rw[cell_of_row w' b _ _ _ _ tD]
   rw[← gR,List.getElem?_take]at hv
   split at hv
   ·simpa using hv
   ·cases hv
theorem zL {xs:List Value}{a z j:Nat}{v:Value} (h:((xs.drop a).take z)[j]?=some v):j<z∧xs[a+j]?=some v:=by
 rw[List.getElem?_take]at h
 split at h
 ·exact⟨by assumption,by simpa using h⟩
 ·cases h
theorem an2 {x:Operand}{s g z i j E n:Nat}{f:Nat→List D}{d:D} (ho:o.op=.load T x) (hx:S.ev X x=.op s g z i j) (hr:nth X.Z.bL T=some r) (hk:(Nat.beq r.k 1 || Nat.beq r.k 2)=false)
  (h9:Nat.beq r.k 9=false) (hg:S.γ s=g) (aF:S.σ s=.arr E z n f) (hi:i<n) (hd:nth (f i) j=some d):dy X o S d:=fun κ sv a w hs=>by
 have cj:=X.Z.bG _ _ hr (by intro e;rw[e]at h9;cases h9)
 obtain ⟨b,off,cap,xs,he,_,_,_,_,cq,hc⟩:=yX hs hx hg aF hi
 rw[eU]at hd
 obtain ⟨vj,hv,wb⟩:=cq.get hd
 obtain ⟨hj,kD⟩:=zL hv
 exact⟨vj,wb,fun w' hb=>by simp[execOp,ho,he,Instr.loadAt,Instr.sureAddr,lj cj hk (hc w' hb j vj hj kD)]⟩
theorem alr {x:Operand}{s g z i j E n:Nat}{f:Nat→List D}{m:List D} (ho:o.op=.load T x) (hx:S.ev X x=.op s g z i j) (hr:nth X.Z.bL T=some r) (hk:(Nat.beq r.k 1 || Nat.beq r.k 2)=true)
  (h9:Nat.beq r.k 9=false) (hg:S.γ s=g) (aF:S.σ s=.arr E z n f) (hi:i<n) (hm:takeN r.sz (k6 j (f i))=some m):dy X o S (.agg m):=fun κ sv a w hs=>by
 have cj:=X.Z.bG _ _ hr (by intro e;rw[e]at h9;cases h9)
 obtain ⟨b,off,cap,xs,he,_,_,Fb,_,cq,hc⟩:=yX hs hx hg aF hi
 obtain ⟨rfl,hl⟩:=oS hm
 rw[oy]at hl ⊢
 have we:=(cq.drop j).take r.sz
 refine ⟨_,.agg _ _ we,fun w' hb=>?_⟩
 have hlen:((((xs.drop (i * z)).take z).drop j).take r.sz).length=r.sz:=by rw[we.length];simp at hl ⊢;omega
 have ou:∀ k v,((((xs.drop (i * z)).take z).drop j).take r.sz)[k]?=some v→w'.cell? ⟨b,off+(i * z+j)+k,none⟩=some v:=by
  intro k v hk
  have h1:((xs.drop (i * z)).take z)[j+k]?=some v:=by
   rw[List.getElem?_take]at hk
   split at hk
   ·simpa using hk
   ·cases hk
  obtain ⟨h2,h3⟩:=zL h1
  rw[Nat.add_assoc,Nat.add_assoc]
  exact hc w' hb _ _ h2 h3
 simp[execOp,ho,he,Instr.loadAt,Instr.sureAddr,l9 cj hk hlen ou]
theorem vH {P:Program}{w:World}{f off kh:Nat}{ag:Bool} (cj:kt P T r=true) (hk:Nat.beq r.k 1=true) (hf:nth r.fl f=some (off,kh,ag)) (hz:Nat.beq kh 0=false) (b o:Nat) :
  (Instr.fieldAt T (.pointer (some ⟨b,o,none⟩)) f).run P w=.ok (.pointer (some ⟨b,o+off,none⟩)) w:=by
 obtain ⟨i,d,hi,hd,_,_,_,h4⟩:=du cj
 have jJ:=Nat.eq_of_beq_eq_true hk
 cases d<;>try (simp only at h4;omega)
 rename_i fs
 obtain ⟨_,gT,mR⟩:=h4
 rw[eU,← gT,List.getElem?_map]at hf
 cases nM:fs.toList[f]? with
 |none=>rw[nM]at hf;cases hf
 |some yf =>
  rw[nM]at hf
  simp only[Option.map_some,Option.some.injEq,Prod.mk.injEq]at hf
  obtain ⟨h1,h2,_⟩:=hf
  have sM:=List.all_eq_true.1 mR yf (List.mem_of_getElem? nM)
  rw[Bool.and_eq_true]at sM
  obtain ⟨fi,hfi⟩:=Option.isSome_iff_exists.1 sM.1
  have kC:fi.size≠0:=by
   rw[Ea hfi]at h2
   intro e;rw[← h2,e]at hz;cases hz
  have MG:fs[f]?=some yf:=by simpa using nM
  simp[Instr.fieldAt,run_underlying hd,MG,Instr.sureAddr,fieldPlace,run_sizeOf hfi,kC,addr_add,h1]
theorem anW {x:Operand}{f off kh j:Nat}{ag:Bool}{l:List D} (ho:o.op=.fieldAddr T x f) (hx:S.ev X x=.rp l j) (hr:nth X.Z.bL T=some r) (hk:Nat.beq r.k 1=true)
  (hf:nth r.fl f=some (off,kh,ag)) (hz:Nat.beq kh 0=false):dy X o S (.rp l (j+off)):=fun κ sv a w hs=>by
 have cj:=X.Z.bG _ _ hr (by intro e;rw[e]at hk;cases hk)
 have h1:=hs.ev x
 rw[hx]at h1
 generalize he:a.eval x=v at h1
 cases h1 with
 |rp _ _ b bo u hc hu bQ =>
  refine ⟨.pointer (some ⟨b,bo+(j+off),none⟩),.rp l (j+off) b bo u hc hu bQ,fun w' _=>?_⟩
  simp[execOp,ho,he,vH cj hk hf hz,Nat.add_assoc]
theorem Hg {κ:Nat→Nat→Option Value}{sv:Nat→Value}{a:Act}{w:World} (hs:bk X κ sv S a w) {x:Operand}{s g j:Nat} (hx:S.ev X x=.bx s g j) (hg:S.γ s=g) :
  ∃ b,sv s=.pointer (some ⟨b,0,none⟩)∧a.eval x=.pointer (some ⟨b,j,none⟩):=by
 have h1:=hs.ev x
 rw[hx]at h1
 generalize a.eval x=v at h1
 cases h1 with
 |bx _ _ _ _ _ hh _=>exact hh hg.symm
theorem Hh {κ:Nat→Nat→Option Value}{sv:Nat→Value}{a:Act}{w:World} (hs:bk X κ sv S a w) {x:Operand}{s g z i j:Nat} (hx:S.ev X x=.op s g z i j) (hg:S.γ s=g) :
  ∃ b off n cap,sv s=.slice (some ⟨b,off,none⟩) n cap∧a.eval x=.pointer (some ⟨b,off+(i * z+j),none⟩):=by
 have h1:=hs.ev x
 rw[hx]at h1
 generalize a.eval x=v at h1
 cases h1 with
 |op _ _ _ _ _ _ _ hh _=>exact hh hg.symm
theorem anU {x:Operand}{f off kh s g j:Nat}{ag:Bool} (ho:o.op=.fieldAddr T x f) (hx:S.ev X x=.bx s g j) (hg:S.γ s=g) (hr:nth X.Z.bL T=some r) (hk:Nat.beq r.k 1=true)
  (hf:nth r.fl f=some (off,kh,ag)) (hz:Nat.beq kh 0=false):dy X o S (.bx s g (j+off)):=fun κ sv a w hs=>by
 have cj:=X.Z.bG _ _ hr (by intro e;rw[e]at hk;cases hk)
 obtain ⟨b,h1,h2⟩:=Hg hs hx hg
 exact⟨.pointer (some ⟨b,j+off,none⟩),.bx _ _ _ _ (by omega) (fun _=>⟨b,h1,rfl⟩) rfl,fun w' _=>by simp[execOp,ho,h2,vH cj hk hf hz]⟩
theorem anV {x:Operand}{f off kh s g z i j:Nat}{ag:Bool} (ho:o.op=.fieldAddr T x f) (hx:S.ev X x=.op s g z i j) (hg:S.γ s=g) (hr:nth X.Z.bL T=some r) (hk:Nat.beq r.k 1=true)
  (hf:nth r.fl f=some (off,kh,ag)) (hz:Nat.beq kh 0=false):dy X o S (.op s g z i (j+off)):=fun κ sv a w hs=>by
 have cj:=X.Z.bG _ _ hr (by intro e;rw[e]at hk;cases hk)
 obtain ⟨b,bo,n,cap,h1,h2⟩:=Hh hs hx hg
 exact⟨.pointer (some ⟨b,bo+(i * z+(j+off)),none⟩),.op _ _ _ _ _ _ (by omega) (fun _=>⟨b,bo,n,cap,h1,rfl⟩) rfl,fun w' _=>by simp[execOp,ho,h2,vH cj hk hf hz,Nat.add_assoc]⟩
theorem dp {P:Program} (cj:kt P T r=true) (hk:Nat.beq r.k 3=true):P.underlying T=some (.slice r.el):=by
 obtain ⟨i,d,hi,hd,_,_,_,h4⟩:=du cj
 have jJ:=Nat.eq_of_beq_eq_true hk
 cases d<;>try (simp only at h4;omega)
 rw[hd,h4.2]
theorem fE {P:Program}{w:World}{e:TypeId}{q:dM} (cj:kt P e q=true):(sizeOf e).run P w=.ok q.sz w:=by
 obtain ⟨i,d,hi,hd,h1,_⟩:=du cj
 rw[run_sizeOf hi,h1]
theorem ase {x y:Operand}{z n:Nat}{f:Nat→List D}{k:Int}{q:dM} (ho:o.op=.indexAddr T x y) (hx:S.ev X x=.sl z n f) (hy:S.ev X y=.int .i64 k) (h0:0≤k) (h1:k<n)
  (hr:nth X.Z.bL T=some r) (hk:Nat.beq r.k 3=true) (hq:nth X.Z.bL r.el=some q) (dF:Nat.beq q.k 9=false) (hz:q.sz=z):dy X o S (.rp (f k.toNat) 0):=fun κ sv a w hs=>by
 have cj:=X.Z.bG _ _ hr (by intro e;rw[e]at hk;cases hk)
 have dx:=X.Z.bG _ _ hq (by intro e;rw[e]at dF;cases dF)
 have eB:=pk (hy ▸ hs.ev y)
 have cH:=hs.ev x
 rw[hx]at cH
 generalize he:a.eval x=v at cH
 cases cH with
 |lI=>omega
 |kV=>omega
 |sl _ _ _ b off cap u iX hl oa hu bQ =>
  have cz:k.toNat<n:=by omega
  refine ⟨.pointer (some ⟨b,off+k.toNat * z,none⟩),?_,fun w' _=>?_⟩
  ·have:=aW.rp (f k.toNat) 0 b (off+k.toNat * z) (u k.toNat) (oa _ cz) (hu _ cz) (fun j v hj=>bQ _ j v cz hj)
   simpa using this
  ·simp[execOp,ho,he,eB,Instr.indexAt,asIntOf,run_underlying (dp cj hk),h0,h1,fE dx,addr_add,hz]
theorem anY {x y:Operand}{s g E z n:Nat}{f:Nat→List D}{k:Int}{q:dM} (ho:o.op=.indexAddr T x y) (hx:S.ev X x=.os s g) (hg:S.γ s=g) (aF:S.σ s=.arr E z n f) (hy:S.ev X y=.int .i64 k) (h0:0≤k) (h1:k<n)
  (hr:nth X.Z.bL T=some r) (hk:Nat.beq r.k 3=true) (hq:nth X.Z.bL r.el=some q) (dF:Nat.beq q.k 9=false) (hz:q.sz=z):dy X o S (.op s g z k.toNat 0):=fun κ sv a w hs=>by
 have cj:=X.Z.bG _ _ hr (by intro e;rw[e]at hk;cases hk)
 have dx:=X.Z.bG _ _ hq (by intro e;rw[e]at dF;cases dF)
 have eB:=pk (hy ▸ hs.ev y)
 have cH:=hs.ev x
 rw[hx]at cH
 have aP:=hs.aJ.own s
 rw[aF]at aP
 obtain ⟨xs,e1,_⟩:=aP
 generalize he:a.eval x=v at cH
 cases cH with
 |os _ _ _ _ hh _ =>
  have hv:=hh hg.symm
  obtain ⟨hlen,Fe⟩:=e1
  rcases Fe with ⟨kD,hn⟩|⟨b,off,cap,cur,kD,_⟩
  ·omega
  ·rw[kD]at hv
   refine ⟨.pointer (some ⟨b,off+k.toNat * z,none⟩),.op _ _ _ _ _ _ (by omega) (fun _=>⟨b,off,n,cap,kD,by simp⟩) rfl,fun w' _=>?_⟩
   simp[execOp,ho,he,hv,eB,Instr.indexAt,asIntOf,run_underlying (dp cj hk),h0,h1,fE dx,addr_add,hz]
theorem an4 {x:Operand}{z n:Nat}{f:Nat→List D}{ts:Array TypeId} (ho:o.op=.call { callee:=.builtin .len,args:=#[x],argTypes:=ts }) (hT:ts[0]?=some T) (hx:S.ev X x=.sl z n f)
  (hr:nth X.Z.bL T=some r) (hk:Nat.beq r.k 3=true):dy X o S (.int .i64 n):=fun κ sv a w hs=>by
 have cj:=X.Z.bG _ _ hr (by intro e;rw[e]at hk;cases hk)
 have cH:=hs.ev x
 rw[hx]at cH
 refine ⟨.int .i64 n,.int _ _,fun w' _=>?_⟩
 have key:∃ b cap,a.eval x=.slice b n cap:=by
  generalize a.eval x=v at cH
  cases cH with
  |lI=>exact⟨_,_,rfl⟩
  |kV=>exact⟨_,_,rfl⟩
  |sl=>exact⟨_,_,rfl⟩
 obtain ⟨b,cap,he⟩:=key
 simp[execOp,ho,resolve,invoke,builtin,Builtin.len_,hT,he,run_underlying (dp cj hk),goInt]
theorem alv {x:Operand}{ts:Array TypeId} (ho:o.op=.call { callee:=.builtin .len,args:=#[x],argTypes:=ts }) (hT:ts[0]?=some T) (hx:S.ev X x=.nil)
  (hr:nth X.Z.bL T=some r) (hk:Nat.beq r.k 3=true):dy X o S (.int .i64 0):=fun κ sv a w hs=>by
 have cj:=X.Z.bG _ _ hr (by intro e;rw[e]at hk;cases hk)
 have cH:=hs.ev x
 rw[hx]at cH
 refine ⟨.int .i64 0,.int _ _,fun w' _=>?_⟩
 have he:a.eval x=.slice none 0 0:=by generalize a.eval x=v at cH;cases cH;rfl
 simp[execOp,ho,resolve,invoke,builtin,Builtin.len_,hT,he,run_underlying (dp cj hk),goInt]
theorem alx {x:Operand}{s g E z n:Nat}{f:Nat→List D}{ts:Array TypeId} (ho:o.op=.call { callee:=.builtin .len,args:=#[x],argTypes:=ts }) (hT:ts[0]?=some T) (hx:S.ev X x=.os s g) (hg:S.γ s=g) (aF:S.σ s=.arr E z n f)
  (hr:nth X.Z.bL T=some r) (hk:Nat.beq r.k 3=true):dy X o S (.int .i64 n):=fun κ sv a w hs=>by
 have cj:=X.Z.bG _ _ hr (by intro e;rw[e]at hk;cases hk)
 have cH:=hs.ev x
 rw[hx]at cH
 have aP:=hs.aJ.own s
 rw[aF]at aP
 obtain ⟨xs,e1,_⟩:=aP
 have key:∃ b cap,a.eval x=.slice b n cap:=by
  generalize a.eval x=v at cH
  cases cH with
  |os _ _ _ _ hh _ =>
   have hv:=hh hg.symm
   obtain ⟨hlen,Fe⟩:=e1
   rcases Fe with ⟨kD,hn⟩|⟨b,off,cap,cur,kD,_⟩
   ·exact⟨none,0,by rw[hv,kD,hn]⟩
   ·exact⟨_,cap,by rw[hv,kD]⟩
 obtain ⟨b,cap,he⟩:=key
 exact⟨.int .i64 n,.int _ _,fun w' _=>by simp[execOp,ho,resolve,invoke,builtin,Builtin.len_,hT,he,run_underlying (dp cj hk),goInt]⟩
end
end Go.Ab
namespace Go.Ab
open Go Go.RowKit
section
variable {X:Ctx}{S:St}{o:Oper}{T T2:TypeId}{x y:Operand}
theorem dQ {κ:Nat→Nat→Option Value}{sv:Nat→Value}{a:Act}{w:World} (hs:bk X κ sv S a w) {k:IntKind}{n:Int} (h:S.ev X x=.int k n):a.eval x=.int k n:=pk (h ▸ hs.ev x)
theorem vQ {κ:Nat→Nat→Option Value}{sv:Nat→Value}{a:Act}{w:World} (hs:bk X κ sv S a w) {b:Bool} (h:S.ev X x=.bool b):a.eval x=.bool b:=DJ (h ▸ hs.ev x)
theorem vR {κ:Nat→Nat→Option Value}{sv:Nat→Value}{a:Act}{w:World} (hs:bk X κ sv S a w) {s:ByteArray} (h:S.ev X x=.str s):a.eval x=.string s:=agV (h ▸ hs.ev x)
def aaj:BinOp→Int→Int→Option Bool
 |.eql,a,b=>some (a == b)
 |.neq,a,b=>some (a != b)
 |.lss,a,b=>some (decide (a<b))
 |.leq,a,b=>some (decide (a≤b))
 |.gtr,a,b=>some (decide (a > b))
 |.geq,a,b=>some (decide (a ≥ b))
 |_,_,_=>none
theorem anP {op:BinOp}{k:IntKind}{m n:Int}{b:Bool} (ho:o.op=.binOp op T x y T2) (hx:S.ev X x=.int k m) (hy:S.ev X y=.int k n) (hc:aaj op m n=some b):dy X o S (.bool b):=fun κ sv a w hs =>
 ⟨.bool b,.bool b,fun w' _=>by
  simp only[execOp,ho,dQ hs hx,dQ hs hy]
  cases op<;>simp_all [aaj,eqGuard,binOp,Op.intCmp]⟩
def KS:BinOp→Int→Int→Option Int
 |.add,a,b=>some (a+b)
 |.sub,a,b=>some (a - b)
 |.mul,a,b=>some (a * b)
 |_,_,_=>none
theorem abV {op:BinOp}{k:IntKind}{m n e:Int} (ho:o.op=.binOp op T x y T2) (hx:S.ev X x=.int k m) (hy:S.ev X y=.int k n) (hc:KS op m n=some e):dy X o S (.int k (k.wrap e)):=fun κ sv a w hs =>
 ⟨.int k (k.wrap e),.int _ _,fun w' _=>by
  simp only[execOp,ho,dQ hs hx,dQ hs hy]
  cases op<;>simp_all [KS,eqGuard,binOp,Op.intArith]⟩
theorem alB {k:IntKind}{m n:Int} (ho:o.op=.binOp .quo T x y T2) (hx:S.ev X x=.int k m) (hy:S.ev X y=.int k n) (h1:n≠0):dy X o S (.int k (k.wrap (m.tdiv n))):=fun κ sv a w hs =>
 ⟨.int k (k.wrap (m.tdiv n)),.int _ _,fun w' _=>by simp[execOp,ho,dQ hs hx,dQ hs hy,eqGuard,binOp,Op.intDiv,h1]⟩
theorem alC {k:IntKind}{m n:Int} (ho:o.op=.binOp .rem T x y T2) (hx:S.ev X x=.int k m) (hy:S.ev X y=.int k n) (h1:n≠0):dy X o S (.int k (m.tmod n)):=fun κ sv a w hs =>
 ⟨.int k (m.tmod n),.int _ _,fun w' _=>by simp[execOp,ho,dQ hs hx,dQ hs hy,eqGuard,binOp,Op.intDiv,h1]⟩
theorem aog {k:IntKind}{m n:Int} (ho:o.op=.binOp .xor T x y T2) (hx:S.ev X x=.int k m) (hy:S.ev X y=.int k n):dy X o S (.int k (k.wrap (BitVec.ofInt k.bits m ^^^ BitVec.ofInt k.bits n).toNat)):=fun κ sv a w hs =>
 ⟨.int k (k.wrap (BitVec.ofInt k.bits m ^^^ BitVec.ofInt k.bits n).toNat),.int _ _,fun w' _=>by simp[execOp,ho,dQ hs hx,dQ hs hy,eqGuard,binOp,Op.intBits]⟩
theorem anM {k:IntKind}{m n:Int} (ho:o.op=.binOp .and T x y T2) (hx:S.ev X x=.int k m) (hy:S.ev X y=.int k n):dy X o S (.int k (k.wrap (BitVec.ofInt k.bits m &&& BitVec.ofInt k.bits n).toNat)):=fun κ sv a w hs =>
 ⟨.int k (k.wrap (BitVec.ofInt k.bits m &&& BitVec.ofInt k.bits n).toNat),.int _ _,fun w' _=>by simp[execOp,ho,dQ hs hx,dQ hs hy,eqGuard,binOp,Op.intBits]⟩
theorem abU {k:IntKind}{m n:Int} (ho:o.op=.binOp .andNot T x y T2) (hx:S.ev X x=.int k m) (hy:S.ev X y=.int k n):dy X o S (.int k (k.wrap (BitVec.ofInt k.bits m &&& ~~~BitVec.ofInt k.bits n).toNat)):=fun κ sv a w hs =>
 ⟨.int k (k.wrap (BitVec.ofInt k.bits m &&& ~~~BitVec.ofInt k.bits n).toNat),.int _ _,fun w' _=>by simp[execOp,ho,dQ hs hx,dQ hs hy,eqGuard,binOp,Op.intBits]⟩
theorem aoc {k k2:IntKind}{m n:Int} (ho:o.op=.binOp .shr T x y T2) (hx:S.ev X x=.int k m) (hy:S.ev X y=.int k2 n) (h0:0≤n):dy X o S (.int k (m.fdiv (2 ^ (min n.toNat k.bits)))):=fun κ sv a w hs =>
 ⟨.int k (m.fdiv (2 ^ (min n.toNat k.bits))),.int _ _,fun w' _=>by
  have:¬ n<0:=by omega
  simp[execOp,ho,dQ hs hx,dQ hs hy,eqGuard,binOp,Op.shift,this]⟩
theorem aob {k k2:IntKind}{m n:Int} (ho:o.op=.binOp .shl T x y T2) (hx:S.ev X x=.int k m) (hy:S.ev X y=.int k2 n) (h0:0≤n):dy X o S (.int k (k.wrap (m * 2 ^ (min n.toNat k.bits)))):=fun κ sv a w hs =>
 ⟨.int k (k.wrap (m * 2 ^ (min n.toNat k.bits))),.int _ _,fun w' _=>by
  have:¬ n<0:=by omega
  simp[execOp,ho,dQ hs hx,dQ hs hy,eqGuard,binOp,Op.shift,this]⟩
theorem aoa {b:Bool} (ho:o.op=.unOp .not T x) (hx:S.ev X x=.bool b):dy X o S (.bool (!b)):=fun κ sv a w hs =>
 ⟨.bool !b,.bool _,fun w' _=>by simp[execOp,ho,vQ hs hx,Op.unary]⟩
theorem run_equalIn_bool {P:Program} (w:World) (d:Nat) (b c:Bool) (hT:P.underlying T=some .bool):(Op.equalIn (d+1) T (.bool b) (.bool c)).run P w=.ok (b == c) w:=by
 simp[Op.equalIn,run_underlying hT]
theorem anN {b c:Bool} (ho:o.op=.binOp .eql T x y T2) (hT:X.Z.P.underlying T=some .bool) (hx:S.ev X x=.bool b) (hy:S.ev X y=.bool c):dy X o S (.bool (b == c)):=fun κ sv a w hs =>
 ⟨.bool (b == c),.bool _,fun w' _=>by
  simp[execOp,ho,vQ hs hx,vQ hs hy,eqGuard,binOp,Op.equal,Op.maxDepth,run_equalIn_bool w' 9999 b c hT]⟩
theorem alj {b c:Bool} (ho:o.op=.binOp .neq T x y T2) (hT:X.Z.P.underlying T=some .bool) (hx:S.ev X x=.bool b) (hy:S.ev X y=.bool c):dy X o S (.bool (!(b == c))):=fun κ sv a w hs =>
 ⟨.bool (!(b == c)),.bool _,fun w' _=>by
  simp[execOp,ho,vQ hs hx,vQ hs hy,eqGuard,binOp,Op.equal,Op.maxDepth,run_equalIn_bool w' 9999 b c hT]⟩
theorem alk {k k2:IntKind}{n:Int} (ho:o.op=.convert T T2 x) (hT:(X.Z.P.underlying T).isSome=true) (XH:X.Z.P.underlying T2=some (.int k2)) (hx:S.ev X x=.int k n):dy X o S (.int k2 (k2.wrap n)):=fun κ sv a w hs =>
 ⟨.int k2 (k2.wrap n),.int _ _,fun w' _=>by
  obtain ⟨d,hd⟩:=Option.isSome_iff_exists.1 hT
  simp[execOp,ho,dQ hs hx,convert,run_underlying hd,run_underlying XH,Conv.intToInt]⟩
theorem an6 {m n:Int}{ts:Array TypeId} (ho:o.op=.call { callee:=.builtin .min,args:=#[x,y],argTypes:=ts }) (hx:S.ev X x=.int .i64 m) (hy:S.ev X y=.int .i64 n):dy X o S (.int .i64 (min m n)):=fun κ sv a w hs =>
 ⟨.int .i64 (min m n),.int _ _,fun w' _=>by
  have:(if n<m then n else m)=min m n:=by omega
  simp[execOp,ho,resolve,invoke,builtin,Builtin.min_,Builtin.min2,dQ hs hx,dQ hs hy,this]⟩
theorem an5 {m n:Int}{ts:Array TypeId} (ho:o.op=.call { callee:=.builtin .max,args:=#[x,y],argTypes:=ts }) (hx:S.ev X x=.int .i64 m) (hy:S.ev X y=.int .i64 n):dy X o S (.int .i64 (max m n)):=fun κ sv a w hs =>
 ⟨.int .i64 (max m n),.int _ _,fun w' _=>by
  have:(if n > m then n else m)=max m n:=by omega
  simp[execOp,ho,resolve,invoke,builtin,Builtin.max_,Builtin.max2,dQ hs hx,dQ hs hy,this]⟩
theorem anT {i:Nat}{l:List D}{d:D} (ho:o.op=.extract x i) (hx:S.ev X x=.bn l) (hd:nth l i=some d):dy X o S d:=fun κ sv a w hs=>by
 have h1:=hs.ev x
 rw[hx]at h1
 generalize he:a.eval x=v at h1
 cases h1 with
 |bn _ vs hl =>
  rw[eU]at hd
  obtain ⟨u,hu,hr⟩:=hl.get hd
  exact⟨u,hr,fun w' _=>by simp[execOp,ho,he,Instr.extract,hu]⟩
theorem an7 {s g j:Nat} (ho:o.op=.nilCheck x) (hx:S.ev X x=.bx s g j) (hg:S.γ s=g):dy X o S (.bx s g j):=fun κ sv a w hs=>by
 obtain ⟨b,h1,h2⟩:=Hg hs hx hg
 exact⟨.pointer (some ⟨b,j,none⟩),.bx _ _ _ _ (by omega) (fun _=>⟨b,h1,rfl⟩) rfl,fun w' _=>by simp[execOp,ho,h2]⟩
theorem alz {l:List D}{j:Nat} (ho:o.op=.nilCheck x) (hx:S.ev X x=.rp l j):dy X o S (.rp l j):=fun κ sv a w hs=>by
 have h1:=hs.ev x
 rw[hx]at h1
 refine ⟨a.eval x,h1,fun w' _=>?_⟩
 generalize he:a.eval x=v at h1
 cases h1 with
 |rp=>simp[execOp,ho,he]
theorem aly {s g z i j:Nat} (ho:o.op=.nilCheck x) (hx:S.ev X x=.op s g z i j) (hg:S.γ s=g):dy X o S (.op s g z i j):=fun κ sv a w hs=>by
 obtain ⟨b,bo,n,cap,h1,h2⟩:=Hh hs hx hg
 exact⟨.pointer (some ⟨b,bo+(i * z+j),none⟩),.op _ _ _ _ _ _ (by omega) (fun _=>⟨b,bo,n,cap,h1,rfl⟩) rfl,fun w' _=>by simp[execOp,ho,h2]⟩
theorem asd {cs:Array Operand}{f:FuncId} (ho:o.op=.makeFunc (.func f) #[] cs):dy X o S (.fn f (cs.toList.map (S.ev X))):=fun κ sv a w hs=>by
 have hl:∀ l:List Operand,aD κ S.γ sv (l.map (S.ev X)) (l.map a.eval):=by
  intro l
  induction l with
  |nil=>exact .nil
  |cons c l ih=>exact .cons _ _ _ _ (hs.ev c) ih
 refine ⟨.func (.func f) #[] (cs.map a.eval),?_,fun w' _=>by simp[execOp,ho,Instr.makeFunc]⟩
 have:=aW.fn (κ:=κ) (γ:=S.γ) (sv:=sv) f _ _ (hl cs.toList)
 have e:(cs.toList.map a.eval).toArray=cs.map a.eval:=by simp[← Array.toList_map]
 rwa [e]at this
theorem agO {f off kh:Nat}{ag:Bool}{l:List D}{d:D}{r:dM} (ho:o.op=.field T x f) (hx:S.ev X x=.agg l) (hr:nth X.Z.bL T=some r) (hk:Nat.beq r.k 1=true)
  (hf:nth r.fl f=some (off,kh,ag)) (ha:ag=false) (hd:nth l off=some d):dy X o S d:=fun κ sv a w hs=>by
 have cj:=X.Z.bG _ _ hr (by intro e;rw[e]at hk;cases hk)
 obtain ⟨i,dd,hi,XL,_,_,_,h4⟩:=du cj
 have jJ:=Nat.eq_of_beq_eq_true hk
 cases dd<;>try (simp only at h4;omega)
 rename_i fs
 obtain ⟨_,gT,mR⟩:=h4
 rw[eU,← gT,List.getElem?_map]at hf
 have h1:=hs.ev x
 rw[hx]at h1
 generalize he:a.eval x=v at h1
 cases h1 with
 |agg _ vs hl =>
  rw[eU]at hd
  obtain ⟨u,hu,cq⟩:=hl.get hd
  refine ⟨u,cq,fun w' _=>?_⟩
  cases nM:fs.toList[f]? with
  |none=>rw[nM]at hf;cases hf
  |some yf =>
   rw[nM]at hf
   simp only[Option.map_some,Option.some.injEq,Prod.mk.injEq]at hf
   obtain ⟨h1,h2,h3⟩:=hf
   have sM:=List.all_eq_true.1 mR yf (List.mem_of_getElem? nM)
   rw[Bool.and_eq_true]at sM
   obtain ⟨d2,hu2⟩:=Option.isSome_iff_exists.1 sM.2
   have MG:fs[f]?=some yf:=by simpa using nM
   have Dh:(isAgg yf.type).run X.Z.P w'=.ok false w':=by rw[nx hu2,h3,ha]
   simp[execOp,ho,he,Instr.field,run_underlying XL,MG,asAgg,part,Dh,h1,hu]
end
end Go.Ab
namespace Go.Ab
open Go Go.RowKit
section
variable {X:Ctx}{κ:Nat→Nat→Option Value}{sv:Nat→Value}{S:St}{a:Act}{w:World}
theorem cP {base:Nat}{γ:Nat→Nat}{s:Nat}{ow:Own} (h:fB base κ γ sv w s ow) {b:Nat} (hb:aL ow (sv s)=some b):b<w.heap.size:=by
 cases ow with
 |none=>cases hb
 |box l =>
  obtain ⟨b',T,cs,e1,e2,_⟩:=h
  rw[e1]at hb
  simp only[aL,Option.some.injEq]at hb
  subst hb
  exact(Array.getElem?_eq_some_iff.1 e2).1
 |arr T z n f =>
  obtain ⟨xs,e1,_⟩:=h
  rcases e1.2 with ⟨hv,_⟩|⟨g,off,cap,cur,hv,_,hg,_⟩
  ·rw[hv]at hb;cases hb
  ·rw[hv]at hb
   simp only[aL,Option.some.injEq]at hb
   subst hb
   exact(Array.getElem?_eq_some_iff.1 hg).1
 |mp l =>
  obtain ⟨b',es,c,e1,e2,_⟩:=h
  rw[e1]at hb
  simp only[aL,Option.some.injEq]at hb
  subst hb
  exact(Array.getElem?_eq_some_iff.1 e2).1
 |si t p =>
  obtain ⟨b',e1,e2⟩:=h
  rw[e1]at hb
  simp only[aL,Option.some.injEq]at hb
  subst hb
  exact(Array.getElem?_eq_some_iff.1 e2).1
theorem dZ {base:Nat}{aA:Nat→Nat→Option Value}{γ cU:Nat→Nat}{aQ:Nat→Value}{w':World}{s:Nat}{ow:Own} (hle:Le κ aA γ cU sv aQ) (gy:aQ s=sv s)
  (ed:∀ b,aL ow (sv s)=some b→w'.heap[b]?=w.heap[b]?) (h:fB base κ γ sv w s ow):fB base aA cU aQ w' s ow:=by
 cases ow with
 |none=>trivial
 |box l =>
  obtain ⟨b,T,cs,e1,e2,e3,e4⟩:=h
  refine ⟨b,T,cs,by rw[gy,e1],?_,e3.mono hle,e4⟩
  rw[ed b (by rw[e1];rfl)];exact e2
 |arr T z n f =>
  obtain ⟨xs,e1,e2,e3,e4⟩:=h
  refine ⟨xs,?_,e2,e3,fun i hi=>(e4 i hi).mono hle⟩
  rw[gy]
  refine ⟨e1.1,?_⟩
  rcases e1.2 with hn|⟨g,off,cap,cur,hv,hb,hg,rest⟩
  ·exact .inl hn
  ·exact .inr ⟨g,off,cap,cur,hv,hb,by rw[ed g (by rw[hv];rfl)];exact hg,rest⟩
 |mp l =>
  obtain ⟨b,es,c,e1,e2,e3⟩:=h
  refine ⟨b,es,c,by rw[gy,e1],?_,e3⟩
  rw[ed b (by rw[e1];rfl)];exact e2
 |si t p =>
  obtain ⟨b,e1,e2⟩:=h
  refine ⟨b,by rw[gy,e1],?_⟩
  rw[ed b (by rw[e1];rfl)];exact e2
theorem eY (κ:Nat→Nat→Option Value) (γ:Nat→Nat) (sv:Nat→Value) (s:Nat) (pv:Value):Le κ κ γ (aG γ s (γ s+1)) sv (aG sv s pv):=by
 refine ⟨fun _ _ _ h=>h,fun t=>?_,fun t h=>?_⟩
 ·by_cases e:t=s
  ·subst e;rw[aC];omega
  ·rw[bh _ _ _ _ e];exact Nat.le_refl _
 ·by_cases e:t=s
  ·subst e;rw[aC]at h;omega
  ·rw[bh _ _ _ _ e]
theorem qf {base:Nat}{γ:Nat→Nat}{s:Nat}{ow:Own} (h:fB base κ γ sv w s ow) {b:Nat} (hb:aL ow (sv s)=some b):∃ o:Obj,w.heap[b]?=some o∧ov o=true:=by
 cases ow with
 |none=>cases hb
 |box l =>
  obtain ⟨b',T,cs,e1,e2,_⟩:=h
  rw[e1]at hb;simp only[aL,Option.some.injEq]at hb;subst hb;exact⟨_,e2,rfl⟩
 |arr T z n f =>
  obtain ⟨xs,e1,_⟩:=h
  rcases e1.2 with ⟨hv,_⟩|⟨g,off,cap,cur,hv,_,hg,_⟩
  ·rw[hv]at hb;cases hb
  ·rw[hv]at hb;simp only[aL,Option.some.injEq]at hb;subst hb;exact⟨_,hg,rfl⟩
 |mp l =>
  obtain ⟨b',es,c,e1,e2,_⟩:=h
  rw[e1]at hb;simp only[aL,Option.some.injEq]at hb;subst hb;exact⟨_,e2,rfl⟩
 |si t p =>
  obtain ⟨b',e1,e2⟩:=h
  rw[e1]at hb;simp only[aL,Option.some.injEq]at hb;subst hb;exact⟨_,e2,rfl⟩
theorem pM (h:cE X κ sv S w) {w':World}{row:Option Nat} (hg:w.grownBy w' row) (tG:∀ b,row=some b→∃ s,aL (S.σ s) (sv s)=some b) {sF:Nat→Own}{aQ:Nat→Value}
  (ee:∀ s b,aL (sF s) (aQ s)=some b→w.heap.size≤b∨∃ t,aL (S.σ t) (sv t)=some b):∃ M,X.Φ M w'∧∀ s b,aL (sF s) (aQ s)=some b→M b:=by
 obtain ⟨M,h1,h2⟩:=h.frame
 refine ⟨_,X.cl M w w' h1 ⟨hg.os,hg.tape,hg.output,hg.size,fun k hk hm=>hg.block k hk (fun e=>?_)⟩,fun s b hb=>?_⟩
 ·obtain ⟨s,hs⟩:=tG k e.symm;exact hm (h2 s k hs)
 ·rcases ee s b hb with h3|⟨t,h3⟩
  ·exact .inr h3
  ·exact .inl (h2 t b h3)
theorem ib {a:Act} (h:bk X κ sv S a w) {w':World} (s:Nat) (hg:w.grownBy w' (aL (S.σ s) (sv s))):jU X.nd X.w0.heap.size a w':=h.defers.grown hg fun _ hb=>qf (h.aJ.own s) hb
theorem cE.renew (h:cE X κ sv S w) {w':World} (s:Nat) (ow:Own) (pv:Value) (hg:w.grownBy w' (aL (S.σ s) (sv s)))
  (hf:∀ b,aL ow pv=some b→(w.heap.size≤b∨aL (S.σ s) (sv s)=some b))
  (ho:fB (X.base s) κ (aG S.γ s (S.γ s+1)) (aG sv s pv) w' s ow) (rZ:Nat→D):cE X κ (aG sv s pv) ⟨rZ,aG S.γ s (S.γ s+1),aG S.σ s ow⟩ w':=by
 have h0:=h
 obtain ⟨h1,h2,h3,h4,h5,_,h7,hold,qR,dj,MO,a1,a2,a3,XQ⟩:=h
 have hle:=eY κ S.γ sv s pv
 have E3:∀ t,t≠s→∀ b,aL (S.σ t) (sv t)=some b→w'.heap[b]?=w.heap[b]?:=fun t ht b hb =>
  hg.block b (cP (h2 t) hb) (fun e=>ht (h3 t s b hb e.symm))
 have bP:∀ t b,aL (aG S.σ s ow t) (aG sv s pv t)=some b→(t=s∧(w.heap.size≤b∨aL (S.σ s) (sv s)=some b))∨(t≠s∧aL (S.σ t) (sv t)=some b):=by
  intro t b hb
  by_cases e:t=s
  ·subst e;rw[aC,aC]at hb;exact .inl ⟨rfl,hf b hb⟩
  ·rw[bh _ _ _ _ e,bh _ _ _ _ e]at hb;exact .inr ⟨e,hb⟩
 refine ⟨fun b o v hk=>?_,fun t=>?_,fun t u b ht hu=>?_,fun t b o ht=>?_,fun t b ht=>?_,pM h0 hg (fun b hb=>⟨s,hb⟩) (fun t b ht=>?_),fun g l uI=>?_,hold,fun b hb=>?_,Nat.le_trans dj hg.size,MO.trans hle,a1,fun t b ht=>?_,fun b h=>Nat.lt_of_lt_of_le (a3 b h) hg.size,XQ⟩
 ·have hc:=h1 b o v hk
  refine hg.cell hc (fun e=>?_)
  have:=h4 s b o e.symm
  rw[this]at hk;cases hk
 ·by_cases e:t=s
  ·subst e;simp only[aC];exact ho
  ·simp only[bh _ _ _ _ e]
   exact dZ hle (bh _ _ _ _ e) (E3 t e) (h2 t)
 ·simp only at ht hu
  rcases bP t b ht with ⟨rfl,h8⟩|⟨e1,h8⟩<;>rcases bP u b hu with ⟨rfl,h9⟩|⟨e2,h9⟩
  ·rfl
  ·have:=cP (h2 u) h9
   rcases h8 with h8|h8
   ·omega
   ·exact h3 _ _ b h8 h9
  ·have:=cP (h2 t) h8
   rcases h9 with h9|h9
   ·omega
   ·exact h3 _ _ b h8 h9
  ·exact h3 t u b h8 h9
 ·simp only at ht
  rcases bP t b ht with ⟨rfl,h8⟩|⟨e1,h8⟩
  ·rcases h8 with h8|h8
   ·cases hk:κ b o with
    |none=>rfl
    |some v=>have:=World.block_lt_of_cell? w _ (h1 b o v hk);simp at this;omega
   ·exact h4 _ b o h8
  ·exact h4 t b o h8
 ·simp only at ht
  rcases bP t b ht with ⟨rfl,h8⟩|⟨e1,h8⟩
  ·rcases h8 with h8|h8
   ·exact .inl (Nat.le_trans dj h8)
   ·exact h5 _ b h8
  ·exact h5 t b h8
 ·rcases bP t b ht with ⟨rfl,h8⟩|⟨e1,h8⟩
  ·rcases h8 with h8|h8
   ·exact .inl h8
   ·exact .inr ⟨_,h8⟩
  ·exact .inr ⟨t,h8⟩
 ·obtain ⟨hc,u,hu,hk⟩:=h7 g l uI
  exact⟨hc,u,hu.mono hle,hk⟩
 ·obtain ⟨e1,e2⟩:=qR b hb
  by_cases e:0=s
  ·subst e;simp only[aC];exact⟨by omega,fun e=>by omega⟩
  ·simp only[bh _ _ _ _ e];exact⟨e1,e2⟩
 ·rcases bP t b ht with ⟨rfl,h8⟩|⟨e1,h8⟩
  ·rcases h8 with h8|h8
   ·exact fun hT=>by have:=a3 b hT;omega
   ·exact a2 _ b h8
  ·exact a2 t b h8
theorem cL {w w':World} (h:Below w.heap.size w w') (row:Option Nat):w.grownBy w' row:=⟨h.os,h.tape,h.output,h.size,fun k hk _=>h.block k hk⟩
theorem cE.rewrite (h:cE X κ sv S w) {w':World} (s:Nat) (ow:Own) (hg:w.grownBy w' (aL (S.σ s) (sv s))) (hf:aL ow (sv s)=aL (S.σ s) (sv s))
  (ho:fB (X.base s) κ S.γ sv w' s ow) (rZ:Nat→D):cE X κ sv ⟨rZ,S.γ,aG S.σ s ow⟩ w':=by
 have h0:=h
 obtain ⟨h1,h2,h3,h4,h5,_,h7,hold,qR,dj,MO,a1,a2,a3,XQ⟩:=h
 have E3:∀ t,t≠s→∀ b,aL (S.σ t) (sv t)=some b→w'.heap[b]?=w.heap[b]?:=fun t ht b hb =>
  hg.block b (cP (h2 t) hb) (fun e=>ht (h3 t s b hb e.symm))
 have bP:∀ t b,aL (aG S.σ s ow t) (sv t)=some b→aL (S.σ t) (sv t)=some b:=by
  intro t b hb
  by_cases e:t=s
  ·subst e;rw[aC]at hb;rw[← hf];exact hb
  ·rw[bh _ _ _ _ e]at hb;exact hb
 refine ⟨fun b o v hk=>?_,fun t=>?_,fun t u b ht hu=>h3 t u b (bP t b ht) (bP u b hu),fun t b o ht=>h4 t b o (bP t b ht),fun t b ht=>h5 t b (bP t b ht),pM h0 hg (fun b hb=>⟨s,hb⟩) (fun t b ht=>.inr ⟨t,bP t b ht⟩),h7,hold,qR,Nat.le_trans dj hg.size,MO,a1,fun t b ht=>a2 t b (bP t b ht),fun b h=>Nat.lt_of_lt_of_le (a3 b h) hg.size,XQ⟩
 ·have hc:=h1 b o v hk
  refine hg.cell hc (fun e=>?_)
  have:=h4 s b o e.symm
  rw[this]at hk;cases hk
 ·by_cases e:t=s
  ·subst e;simp only[aC];exact ho
  ·simp only[bh _ _ _ _ e]
   exact dZ (Le.refl _ _ _) rfl (E3 t e) (h2 t)
theorem cE.freeze (h:cE X κ sv S w) (s:Nat) (ee:∀ b,aL (S.σ s) (sv s)=some b→X.w0.heap.size≤b) (rZ:Nat→D):cE X (fun b o=>if aL (S.σ s) (sv s)=some b then w.cell? ⟨b,o,none⟩ else κ b o) sv ⟨rZ,S.γ,aG S.σ s .none⟩ w:=by
 obtain ⟨h1,h2,h3,h4,h5,⟨M,h6,vX⟩,h7,hold,qR,dj,MO,a1,a2,a3,XQ⟩:=h
 have hle:Le κ (fun b o=>if aL (S.σ s) (sv s)=some b then w.cell? ⟨b,o,none⟩ else κ b o) S.γ S.γ sv sv:=by
  refine ⟨fun b o v hk=>?_,fun _=>Nat.le_refl _,fun _ _=>rfl⟩
  split
  ·rename_i e;have:=h4 s b o e;rw[this]at hk;cases hk
  ·exact hk
 have bP:∀ t b,aL (aG S.σ s .none t) (sv t)=some b→t≠s∧aL (S.σ t) (sv t)=some b:=by
  intro t b hb
  by_cases e:t=s
  ·subst e;rw[aC]at hb;cases hb
  ·rw[bh _ _ _ _ e]at hb;exact⟨e,hb⟩
 refine ⟨fun b o v hk=>?_,fun t=>?_,fun t u b ht hu=>h3 t u b (bP t b ht).2 (bP u b hu).2,fun t b o ht=>?_,fun t b ht=>h5 t b (bP t b ht).2,⟨M,h6,fun t b ht=>vX t b (bP t b ht).2⟩,fun g l uI=>?_,fun b o v hb hk=>?_,qR,dj,MO.trans hle,fun b o v hk=>?_,fun t b ht=>a2 t b (bP t b ht).2,a3,XQ⟩
 ·split at hk
  ·exact hk
  ·exact h1 b o v hk
 ·by_cases e:t=s
  ·subst e;simp only[aC];trivial
  ·simp only[bh _ _ _ _ e]
   exact dZ hle rfl (fun _ _=>rfl) (h2 t)
 ·obtain ⟨e,hb⟩:=bP t b ht
  rw[if_neg (fun e2=>e (h3 t s b hb e2))]
  exact h4 t b o hb
 ·obtain ⟨hc,u,hu,hk⟩:=h7 g l uI
  exact⟨hc,u,hu.mono hle,fun j v hj=>hle.cells _ _ _ (hk j v hj)⟩
 ·split at hk
  ·rename_i e;have:=ee b e;omega
  ·exact hold b o v hb hk
 ·split at hk
  ·rename_i e;exact a2 s b e
  ·exact a1 b o v hk
theorem rO (h:cE X κ sv S w) (s:Nat):Le κ (fun b o=>if aL (S.σ s) (sv s)=some b then w.cell? ⟨b,o,none⟩ else κ b o) S.γ S.γ sv sv:=by
 refine ⟨fun b o v hk=>?_,fun _=>Nat.le_refl _,fun _ _=>rfl⟩
 split
 ·rename_i e;have:=h.sep s b o e;rw[this]at hk;cases hk
 ·exact hk
theorem bk.AW (h:bk X κ sv S a w) {aA:Nat→Nat→Option Value}{cU:Nat→Nat}{aQ:Nat→Value} (hle:Le κ aA S.γ cU sv aQ) (dst:Option Nat) {d:D}{v:Value} (hd:aW aA cU aQ d v) :
  ∀ i,i<X.nt→aW aA cU aQ ((S.put dst d).ρ i) ((a.put dst v).tmps.getD i Go.undef):=by
 intro j hj
 cases dst with
 |none=>exact(h.slot j hj).mono hle
 |some i =>
  simp only[St.put,St.set,Act.put,Df]
  by_cases e:i=j
  ·subst e;rw[if_pos ⟨rfl,by rw[h.size];exact hj⟩,aC];exact hd
  ·rw[if_neg (by intro h';exact e h'.1),bh _ _ _ _ (fun h'=>e h'.symm)];exact(h.slot j hj).mono hle
theorem tT (a:Act) (dst:Option Nat) (v:Value):(a.put dst v).tmps.size=a.tmps.size:=by cases dst<;>simp[Act.put]
end
def kf (X:Ctx) (o:Oper) (S S':St):Prop:=∀ κ sv a w,bk X κ sv S a w →
 ∃ v w' aA aQ,((execOp a.eval o).run X.Z.P w=.ok (.value v) w'∨((execOp a.eval o).run X.Z.P w=.ok .skip w'∧v=Go.undef))∧bk X aA aQ S' (a.put o.dst v) w'
section
variable {X:Ctx}{Q:Exit→St→Prop}{S S':St}{ops:Array Oper}{o:Oper}{rest:List Oper}{T:TypeId}{r:dM}
theorem arp (hg:o.guard=none) (h:kf X o S S') (hk:WL X ops rest Q S'):WL X ops (o::rest) Q S:=fun κ sv a w hs=>by
 obtain ⟨v,w',aA,aQ,h1,h2⟩:=h κ sv a w hs
 refine wpListIn_plain hg fun K hK=>?_
 rcases h1 with h1|⟨h1,rfl⟩
 ·exact wv h1 (hK _ _ (hk aA aQ _ _ h2))
 ·exact Rk h1 (hK _ _ (hk aA aQ _ _ h2))
def St.boxed (S:St) (s:Nat) (l:List D):St:=⟨aG S.ρ s (.bx s (S.γ s+1) 0),aG S.γ s (S.γ s+1),aG S.σ s (.box l)⟩
theorem AU {κ:Nat→Nat→Option Value}{sv:Nat→Value}{a:Act}{w:World} (hs:bk X κ sv S a w) (s:Nat) {l:List D}{cs:List Value} (hl:aD κ S.γ sv l cs) (hc:BX l T) :
  bk X κ (aG sv s (.pointer (some ⟨w.heap.size,0,none⟩))) (S.boxed s l) (a.put (some s) (.pointer (some ⟨w.heap.size,0,none⟩))) (w.alloc (.cells cs.toArray T)):=by
 have hle:=eY κ S.γ sv s (.pointer (some ⟨w.heap.size,0,none⟩))
 refine ⟨by rw[tT];exact hs.size,(ib hs s (World.grownBy_alloc w _ _)).put _ _,?_,?_⟩
 ·exact hs.AW hle (some s) (.bx _ _ _ _ (by rw[aC];exact Nat.le_refl _) (fun _=>⟨w.heap.size,aC _ _ _,rfl⟩) rfl)
 ·refine hs.aJ.renew s (.box l) _ (World.grownBy_alloc w _ _) (fun b hb=>?_) ⟨w.heap.size,T,cs,aC _ _ _,heap_alloc_new w _,hl.mono hle,hc⟩ _
  simp only[aL,Option.some.injEq]at hb
  exact .inl (by omega)
theorem anC {x:Operand}{s:Nat}{d:D} (ho:o.op=.box T x) (hd:o.dst=some s) (hx:S.ev X x=d) (hc:aY d.cells=true) (hm:ph d.cells=none):kf X o S (S.boxed s d.cells):=fun κ sv a w hs=>by
 have h1:=(hx ▸ hs.ev x).cells hc
 have:=AU (T:=T) hs s h1.1 (.of hc hm)
 rw[hd]
 refine ⟨_,_,κ,_,.inl ?_,this⟩
 simp[execOp,ho,Instr.box,newVar,newRow]
theorem uk {κ:Nat→Nat→Option Value}{γ:Nat→Nat}{sv:Nat→Value}:∀ {zs:List Zr}{vs:List Value},Zr.xu zs vs=true→aD κ γ sv (zs.map Zr.toD) vs
 |[],[],_=>.nil
 |[],_::_,h=>by cases h
 |_::_,[],h=>by cases h
 |z::zs,v::vs,h=>by
  simp only[Zr.xu,Bool.and_eq_true]at h
  refine .cons _ _ _ _ ?_ (uk h.2)
  have h1:=h.1
  unfold Zr.fits at h1
  split at h1
  ·simp only[Bool.and_eq_true,beq_iff_eq]at h1;obtain ⟨rfl,rfl⟩:=h1;exact .int _ _
  ·simp only[Bool.not_eq_true']at h1;subst h1;exact .bool _
  ·rename_i x
   have:x=⟨#[]⟩:=by cases x;simp_all
   subst this;exact .str _
  ·exact .nil
  ·exact .one _ rfl
  ·exact .one _ rfl
  ·exact .lk _ _ rfl
  ·exact .lk _ _ rfl
  ·cases h1
theorem wU:∀ (zs:List Zr),aY (zs.map Zr.toD)=true
 |[]=>rfl
 |z::zs=>by simp only[List.map_cons,aY,wU zs,Bool.and_true];cases z<;>rfl
theorem aha:∀ (zs:List Zr),ph (zs.map Zr.toD)=none
 |[]=>rfl
 |z::zs=>by cases z<;>rfl
theorem agb {s:Nat} (ho:o.op=.alloc T) (hd:o.dst=some s) (hr:nth X.Z.bL T=some r) (h9:Nat.beq r.k 9=false):kf X o S (S.boxed s (r.zs.map Zr.toD)):=fun κ sv a w hs=>by
 have cj:=X.Z.bG _ _ hr (by intro e;rw[e]at h9;cases h9)
 obtain ⟨i,d,hi,XL,_,_,⟨v,hv,hz⟩,_⟩:=du cj
 have:=AU (T:=T) hs s (uk (γ:=S.γ) (κ:=κ) (sv:=sv) hz) (.of (wU _) (aha _))
 rw[hd]
 refine ⟨_,_,κ,_,.inl ?_,this⟩
 simp[execOp,ho,Instr.alloc,zeroValue,typeInfo,hi,hv,newVar,newRow]
def iy:List D→Nat→List D→Option (List D)
 |l,0,[]=>some l
 |_::l,0,d::m=>match iy l 0 m with
  |some k=>some (d::k)
  |none=>none
 |x::l,j+1,m=>match iy l j m with
  |some k=>some (x::k)
  |none=>none
 |[],_,_=>none
theorem ng:∀ {l m k:List D}{j:Nat},iy l j m=some k→k=l.take j++m++l.drop (j+m.length)∧j+m.length≤l.length
 |l,[],k,0,h=>by
  cases l<;>(simp[iy]at h;subst h;simp)
 |[],m,k,j+1,h=>by simp[iy]at h
 |[],d::m,k,0,h=>by simp[iy]at h
 |x::l,d::m,k,0,h=>by
  unfold iy at h
  cases h1:iy l 0 m with
  |none=>rw[h1]at h;cases h
  |some k' =>
  rw[h1]at h
  simp only[Option.some.injEq]at h
  subst h
  obtain ⟨e,hl⟩:=ng h1
  refine ⟨?_,by simp at hl ⊢;omega⟩
  rw[e];simp
 |x::l,m,k,j+1,h=>by
  unfold iy at h
  cases h1:iy l j m with
  |none=>rw[h1]at h;cases h
  |some k' =>
  rw[h1]at h
  simp only[Option.some.injEq]at h
  subst h
  obtain ⟨e,hl⟩:=ng h1
  refine ⟨?_,by simp at hl ⊢;omega⟩
  rw[e]
  rw[show j+1+m.length=j+m.length+1 from by omega]
  simp
theorem AN {P:Program}{w:World} (cj:kt P T r=true) {v:Value}{vs:List Value} (hv:v.cells.toList=vs) (kC:vs.length=r.sz) {g j:Nat}{E:TypeId}{cur:Array Value} (hg:w.heap[g]?=some (.cells cur E (0,0)))
  (hl:j+vs.length≤cur.size) (h1:∀ u∈vs,u.oneCell'=true) :
  (storeVar T ⟨g,j,none⟩ v).run P w=.ok () (w.setRow g (cur.toList.take j++vs++cur.toList.drop (j+vs.length)).toArray):=by
 obtain ⟨i,d,hi,hd,hs,_⟩:=du cj
 have:=run_storeCells_at P g j E vs 0 cur w hg (by simpa using hl) h1
 simp only[Nat.add_zero]at this
 have h2:v.cells.size=i.size:=by rw[hs,← kC,← hv];simp
 simp[storeVar,run_sizeOf hi,h2,hv,this]
theorem abl {s:Nat} (ho:o.op=.alloc T) (hd:o.dst=some s) (hr:nth X.Z.bL T=some r) (h9:Nat.beq r.k 9=false) (hz:r.zs=[.np,.sl]):kf X o S (S.boxed s [.mb s (S.γ s+1) T,.nil]):=fun κ sv a w hs=>by
 have cj:=X.Z.bG _ _ hr (by intro e;rw[e]at h9;cases h9)
 obtain ⟨i,d,hi,XL,_,_,⟨v,hv,nO⟩,_⟩:=du cj
 have h1:=uk (γ:=S.γ) (κ:=κ) (sv:=sv) nO
 rw[hz]at h1
 have h2:aD κ S.γ sv [.mb s (S.γ s+1) T,.nil] v.cells.toList:=by
  generalize v.cells.toList=vs at h1
  cases h1 with
  |cons _ v1 _ vs r1 r2 =>
   cases r1 with
   |lk _ _ e=>cases e;exact .cons _ _ _ _ (.Np _ _ _) r2
 have:=AU (T:=T) hs s h2 ⟨rfl,fun T0 e=>by simpa[ph] using e⟩
 rw[hd]
 refine ⟨_,_,κ,_,.inl ?_,this⟩
 simp[execOp,ho,Instr.alloc,zeroValue,typeInfo,hi,hv,newVar,newRow]
theorem jy (w:World) (g:Nat) (cs:Array Value):w.grownBy (w.setRow g cs) (some g) :=
 ⟨rfl,rfl,rfl,by simp,fun k _ hk=>setRow_other w g k _ (fun e=>hk (by simp[e]))⟩
theorem anG {x y:Operand}{s g j:Nat}{l k:List D}{d:D} (ho:o.op=.store T x y) (hx:S.ev X x=.bx s g j) (hg:S.γ s=g) (aF:S.σ s=.box l) (hy:S.ev X y=d) (hc:aY d.cells=true)
  (hr:nth X.Z.bL T=some r) (h9:Nat.beq r.k 9=false) (hn:d.cells.length=r.sz) (hk:iy l j d.cells=some k) (hmb:∀ T0,ph k=some T0→ph l=some T0) (aaL:o.dst=none):kf X o S ⟨S.ρ,S.γ,aG S.σ s (.box k)⟩:=fun κ sv a w hs=>by
 have cj:=X.Z.bG _ _ hr (by intro e;rw[e]at h9;cases h9)
 obtain ⟨b,Tb,cs,he,gy,hh,cq,oa⟩:=D7 hs hx hg aF
 obtain ⟨h1,h2⟩:=(hy ▸ hs.ev y).cells hc
 obtain ⟨rfl,hlen⟩:=ng hk
 have zY:=h1.length
 have qu:=cq.length
 have bX:=AN (w:=w) cj (v:=a.eval y) rfl (by rw[zY];exact hn) (g:=b) (j:=j) hh (by simp[zY,qu]at hlen ⊢;omega) h2
 have Fj:(execOp a.eval o).run X.Z.P w=((storeVar T ⟨b,j,none⟩ (a.eval y)).run X.Z.P w).andThen fun _ w'=>.ok .skip w':=by simp[execOp,ho,he,Instr.storeAt,Instr.sureAddr]
 rw[bX,Result.andThen_ok]at Fj
 rw[aaL]
 refine ⟨Go.undef,_,κ,sv,.inr ⟨Fj,rfl⟩,⟨hs.size,ib hs s (by rw[aF,gy];exact jy _ _ _),hs.slot,?_⟩⟩
 ·refine hs.aJ.rewrite s (.box _) ?_ (by rw[aF,gy];rfl) ?_ _
  ·rw[aF,gy];exact jy _ _ _
  ·refine ⟨b,Tb,cs.take j++(a.eval y).cells.toList++cs.drop (j+(a.eval y).cells.toList.length),gy,?_,?_,?_⟩
   ·have:=setRow_heap w b (cs.toArray) (cs.take j++(a.eval y).cells.toList++cs.drop (j+(a.eval y).cells.toList.length)).toArray Tb (0,0) hh
    simpa using this
   ·rw[zY];exact((cq.take j).append h1).append (cq.drop _)
   ·exact⟨ga (ga (pG oa.1 _) hc) (pE oa.1 _),fun T0 e=>oa.2 T0 (hmb T0 e)⟩
def qn (f:Nat→List D) (i:Nat) (l:List D):Nat→List D:=fun k=>if k=i then l else f k
theorem O1 {xs ys:List Value}{z i k n:Nat} (hx:xs.length=n * z) (hy:ys.length=z) (hi:i<n) (hk:k<n) (cx:k≠i) :
  ((xs.take (i * z)++ys++xs.drop (i * z+z)).drop (k * z)).take z=(xs.drop (k * z)).take z:=by
 have QO:i * z+z≤n * z:=by have:=Nat.mul_le_mul_right z (show i+1≤n by omega);rw[Nat.add_mul]at this;omega
 have hkz:k * z+z≤n * z:=by have:=Nat.mul_le_mul_right z (show k+1≤n by omega);rw[Nat.add_mul]at this;omega
 apply List.ext_getElem?
 intro j
 simp only[List.getElem?_take,List.getElem?_drop]
 by_cases hj:j<z
 ·simp only[hj,if_true]
  by_cases cz:k<i
  ·have:k * z+z≤i * z:=by have:=Nat.mul_le_mul_right z (show k+1≤i by omega);rw[Nat.add_mul]at this;omega
   rw[List.append_assoc,List.getElem?_append_left (by simp;omega),List.getElem?_take,if_pos (by omega)]
  ·have:i * z+z≤k * z:=by have:=Nat.mul_le_mul_right z (show i+1≤k by omega);rw[Nat.add_mul]at this;omega
   rw[List.getElem?_append_right (by simp;omega)]
   simp only[List.length_append,List.length_take,List.getElem?_drop]
   congr 1;omega
 ·simp[hj]
theorem SB {xs ys:List Value}{z i n:Nat} (hx:xs.length=n * z) (hy:ys.length=z) (hi:i<n) :
  ((xs.take (i * z)++ys++xs.drop (i * z+z)).drop (i * z)).take z=ys:=by
 have QO:i * z+z≤n * z:=by have:=Nat.mul_le_mul_right z (show i+1≤n by omega);rw[Nat.add_mul]at this;omega
 rw[List.append_assoc,List.drop_append]
 have h1:(xs.take (i * z)).length=i * z:=by simp;omega
 rw[List.drop_eq_nil_of_le (by omega),h1,Nat.sub_self,List.drop_zero,List.nil_append,List.take_append,List.take_of_length_le (by omega),hy,Nat.sub_self,List.take_zero,List.append_nil]
theorem OI {xs ds:List Value}{a z j:Nat} (hj:j+ds.length≤z) :
  xs.take (a+j)++ds++xs.drop (a+j+ds.length)=xs.take a++(((xs.drop a).take z).take j++ds++((xs.drop a).take z).drop (j+ds.length))++xs.drop (a+z):=by
 generalize hc:xs.drop a=c
 have h1:xs.take (a+j)=xs.take a++c.take j:=by rw[List.take_add,hc]
 have h2:xs.drop (a+j+ds.length)=c.drop (j+ds.length):=by rw[← hc,List.drop_drop,Nat.add_assoc]
 have h3:xs.drop (a+z)=c.drop z:=by rw[← hc,List.drop_drop]
 have h4:(c.take z).take j=c.take j:=by rw[List.take_take,Nat.min_eq_left (by omega)]
 have h5:c.drop (j+ds.length)=(c.take z).drop (j+ds.length)++c.drop z:=by
  rw[List.drop_take]
  have h6:c.drop z=(c.drop (j+ds.length)).drop (z - (j+ds.length)):=by rw[List.drop_drop];congr 1;omega
  rw[h6,List.take_append_drop]
 rw[h1,h2,h3,h4,h5]
 simp only[List.append_assoc]
theorem Pu {cur ds:List Value}{p N:Nat} (h:p+ds.length≤N) (hp:p≤cur.length) :
  (cur.take p++ds++cur.drop (p+ds.length)).take N=(cur.take N).take p++ds++(cur.take N).drop (p+ds.length):=by
 have h1:(cur.take p++ds).length=p+ds.length:=by simp;omega
 rw[List.take_append,List.take_of_length_le (by omega),h1,List.take_take,Nat.min_eq_left (by omega),List.drop_take]
theorem sS {cur ds:List Value}{off p N:Nat} (h:p+ds.length≤N) (hp:off+p≤cur.length) :
  ((cur.take (off+p)++ds++cur.drop (off+p+ds.length)).toArray.toList.drop off).take N=((cur.drop off).take N).take p++ds++((cur.drop off).take N).drop (p+ds.length):=by
 have e1:(cur.take (off+p)++ds++cur.drop (off+p+ds.length)).drop off=(cur.drop off).take p++ds++(cur.drop off).drop (p+ds.length):=by
  rw[List.append_assoc,List.drop_append,List.length_take,Nat.min_eq_left hp,show off - (off+p)=0 by omega,List.drop_zero,List.drop_take,List.drop_drop,List.append_assoc]
  rw[show off+p - off=p by omega,show off+(p+ds.length)=off+p+ds.length by omega]
 rw[List.toList_toArray,e1]
 exact Pu h (by simp;omega)
theorem adR {x y:Operand}{s g z i j E n:Nat}{f:Nat→List D}{k:List D}{d:D} (ho:o.op=.store T x y) (hx:S.ev X x=.op s g z i j) (hg:S.γ s=g) (aF:S.σ s=.arr E z n f) (hi:i<n) (hy:S.ev X y=d) (hc:aY d.cells=true)
  (hr:nth X.Z.bL T=some r) (h9:Nat.beq r.k 9=false) (hn:d.cells.length=r.sz) (hk:iy (f i) j d.cells=some k) (aaL:o.dst=none):kf X o S ⟨S.ρ,S.γ,aG S.σ s (.arr E z n (qn f i k))⟩:=fun κ sv a w hs=>by
 have cj:=X.Z.bG _ _ hr (by intro e;rw[e]at h9;cases h9)
 obtain ⟨b,off,cap,xs,he,gy,aP,gT,oa,cq,_⟩:=yX hs hx hg aF hi
 obtain ⟨h1,h2⟩:=(hy ▸ hs.ev y).cells hc
 obtain ⟨rfl,hlen⟩:=ng hk
 have zY:=h1.length
 have eN:=aP
 obtain ⟨bS,Fe⟩:=eN
 rcases Fe with ⟨hv,yo⟩|⟨gb,sn,iO,cur,hv,dj,kq,iX,rP,kC,gR⟩
 ·omega
 rw[gy]at hv
 simp only[Value.slice.injEq,Option.some.injEq,Addr.mk.injEq,and_true,true_and]at hv
 obtain ⟨⟨rfl,rfl⟩,rfl⟩:=hv
 have QO:i * z+z≤n * z:=by have:=Nat.mul_le_mul_right z (show i+1≤n by omega);rw[Nat.add_mul]at this;omega
 have Ug:n * z≤cap * z:=Nat.mul_le_mul_right z iX
 have Cf:d.cells.length+j≤z:=by omega
 have bX:=AN (w:=w) cj (v:=a.eval y) rfl (by rw[zY];exact hn) (g:=b) (j:=off+(i * z+j)) kq (by rw[zY];omega) h2
 have Fj:(execOp a.eval o).run X.Z.P w=((storeVar T ⟨b,off+(i * z+j),none⟩ (a.eval y)).run X.Z.P w).andThen fun _ w'=>.ok .skip w':=by simp[execOp,ho,he,Instr.storeAt,Instr.sureAddr]
 rw[bX,Result.andThen_ok]at Fj
 rw[aaL]
 refine ⟨Go.undef,_,κ,sv,.inr ⟨Fj,rfl⟩,⟨hs.size,ib hs s (by rw[aF,gy];exact jy _ _ _),hs.slot,?_⟩⟩
 ·refine hs.aJ.rewrite s (.arr E z n _) ?_ (by rw[aF,gy];rfl) ?_ _
  ·rw[aF,gy];exact jy _ _ _
  ·let ys:List Value:=((xs.drop (i * z)).take z).take j++(a.eval y).cells.toList++((xs.drop (i * z)).take z).drop (j+(a.eval y).cells.toList.length)
   have MX:ys.length=z:=by
    simp only[ys,List.length_append,List.length_take,List.length_drop,zY]
    omega
   have arX:(xs.take (i * z+j)++(a.eval y).cells.toList++xs.drop (i * z+j+(a.eval y).cells.toList.length))=xs.take (i * z)++ys++xs.drop (i * z+z):=OI (by rw[zY];omega)
   refine ⟨xs.take (i * z)++ys++xs.drop (i * z+z),?_,fun q hq=>?_,fun q hq=>?_,fun q hq=>?_⟩
   ·refine ⟨by simp[MX];omega,.inr ⟨b,off,cap,(cur.toList.take (off+(i * z+j))++(a.eval y).cells.toList++cur.toList.drop (off+(i * z+j)+(a.eval y).cells.toList.length)).toArray,gy,dj,setRow_heap w b cur _ E (0,0) kq,iX,rP,?_,?_⟩⟩
    ·simp[zY];omega
    ·rw[← arX,← gR]
     exact sS (by rw[zY];omega) (by simp;omega)
   ·simp only[qn];split
    ·simp[gT]at hlen ⊢;omega
    ·have:=hs.aJ.own s;rw[aF]at this;obtain ⟨_,_,e2,_⟩:=this;exact e2 q hq
   ·simp only[qn];split
    ·exact ga (ga (pG oa _) hc) (pE oa _)
    ·have:=hs.aJ.own s;rw[aF]at this;obtain ⟨_,_,_,e3,_⟩:=this;exact e3 q hq
   ·by_cases e:q=i
    ·subst e
     rw[SB aP.1 MX hi]
     simp only[qn,if_true,ys,zY]
     exact((cq.take j).append h1).append (cq.drop _)
    ·rw[O1 aP.1 MX hi hq e]
     simp only[qn,if_neg e]
     have:=hs.aJ.own s;rw[aF]at this
     obtain ⟨xs2,e1,_,_,e4⟩:=this
     have hxx:xs2=xs:=by
      rcases e1.2 with ⟨Cq,_⟩|⟨g2,av4,arA,avW,Cq,_,Ci,_,_,_,ht2⟩
      ·rw[gy]at Cq;cases Cq
      ·rw[gy]at Cq
       simp only[Value.slice.injEq,Option.some.injEq,Addr.mk.injEq,and_true,true_and]at Cq
       obtain ⟨⟨rfl,rfl⟩,rfl⟩:=Cq
       rw[kq]at Ci
       simp only[Option.some.injEq,Obj.cells.injEq,and_true]at Ci
       rw[← ht2,← gR,Ci]
     rw[← hxx];exact e4 q hq
end
end Go.Ab
namespace Go.Ab
open Go Go.RowKit
theorem EO (off:Nat):∀ (cs:List Value) (k:Nat) (arr:Array Value),off+k+cs.length≤arr.size →
  ((cs.zipIdx k).foldl (fun (a:Array Value) p=>a.setIfInBounds (off+p.2) p.1) arr).toList=arr.toList.take (off+k)++cs++arr.toList.drop (off+k+cs.length)
 |[],k,arr,_=>by simp
 |c::cs,k,arr,h=>by
  simp only[List.zipIdx_cons,List.foldl_cons,List.length_cons]at h ⊢
  rw[EO off cs (k+1) _ (by simp;omega)]
  have h1:(arr.setIfInBounds (off+k) c).toList=arr.toList.take (off+k)++c::arr.toList.drop (off+k+1):=by
   rw[Array.toList_setIfInBounds,List.set_eq_take_append_cons_drop,if_pos (by simp;omega)]
  rw[h1]
  have h2:(arr.toList.take (off+k)).length=off+k:=by rw[List.length_take,Array.length_toList];omega
  generalize arr.toList.take (off+k)=A at h2
  have h3:arr.toList.drop (off+k+(cs.length+1))=(arr.toList.drop (off+k+1)).drop cs.length:=by rw[List.drop_drop];congr 1;omega
  rw[h3]
  generalize arr.toList.drop (off+k+1)=B
  have h4:(A++c::B).take (off+(k+1))=A++[c]:=by
   rw[List.take_append,List.take_of_length_le (by omega),h2,show off+(k+1) - (off+k)=1 from by omega];simp
  have h5:(A++c::B).drop (off+(k+1)+cs.length)=B.drop cs.length:=by
   rw[List.drop_append,List.drop_eq_nil_of_le (by omega),h2,show off+(k+1)+cs.length - (off+k)=cs.length+1 from by omega];simp
  rw[h4,h5]
  simp
def yY (pl:Nat→Option (Nat×Nat)):List D→List (Nat×List D)→Option (List D)
 |l,[]=>some l
 |l,(i,m)::rest=>match pl i with
  |some (off,sz)=>bif Nat.beq m.length sz then (match iy l off m with|some l'=>yY pl l' rest|none=>none) else none
  |none=>none
section
variable {κ:Nat→Nat→Option Value}{γ:Nat→Nat}{sv:Nat→Value}
theorem Dc (pl:Nat→Option (Nat×Nat)):∀ (ps:List (Nat×List D)) (vs:List (Nat×Value)) (l l':List D) (cells:Array Value),
  ps.length=vs.length→(∀ (k i:Nat) (m:List D),ps[k]?=some (i,m)→∃ v:Value,vs[k]?=some (i,v)∧aD κ γ sv m v.cells.toList)→aD κ γ sv l cells.toList→yY pl l ps=some l' →
  ∃ lx,Instr.fill pl cells vs=some lx∧aD κ γ sv l' lx.toList
 |[],[],l,l',cells,_,_,hl,h=>by simp[yY]at h;subst h;exact⟨cells,rfl,hl⟩
 |[],_::_,_,_,_,h,_,_,_=>by simp at h
 |_::_,[],_,_,_,h,_,_,_=>by simp at h
 |(i,m)::ps,(i',v)::vs,l,l',cells,hlen,hp,hl,h=>by
  obtain ⟨v',kD,hm⟩:=hp 0 i m (by simp)
  simp only[List.getElem?_cons_zero,Option.some.injEq,Prod.mk.injEq]at kD
  obtain ⟨rfl,rfl⟩:=kD
  unfold yY at h
  cases dY:pl i' with
  |none=>rw[dY]at h;cases h
  |some p =>
   obtain ⟨off,sz⟩:=p
   rw[dY]at h
   simp only at h
   cases hb:Nat.beq m.length sz with
   |false=>rw[hb]at h;cases h
   |true =>
    rw[hb]at h
    have kC:=Nat.eq_of_beq_eq_true hb
    cases ho:iy l off m with
    |none=>rw[ho]at h;cases h
    |some l1 =>
     rw[ho]at h
     obtain ⟨rfl,hle⟩:=ng ho
     have QT:=hm.length
     have Cm:=hl.length
     have hf:=EO off v.cells.toList 0 cells (by simp at QT Cm ⊢;omega)
     simp only[Nat.add_zero]at hf
     have mV:v.cells.size=sz:=by simp at QT;omega
     have Ul:¬ (v.cells.size≠sz∨off+v.cells.size > cells.size):=by simp at QT Cm;omega
     have e:v.cells.zipIdx.foldl (fun cs (c,j)=>cs.setIfInBounds (off+j) c) cells=((v.cells.toList.zipIdx 0).foldl (fun (a:Array Value) p=>a.setIfInBounds (off+p.2) p.1) cells):=by
      rw[← Array.foldl_toList]
      simp only[Array.toList_zipIdx]
     obtain ⟨lx,h1,h2⟩:=Dc pl ps vs _ l' (v.cells.zipIdx.foldl (fun cs (c,j)=>cs.setIfInBounds (off+j) c) cells) (by simpa using hlen)
      (fun k i m hk=>by simpa using hp (k+1) i m (by simpa using hk)) (by rw[e,hf,QT];exact((hl.take off).append hm).append (hl.drop _)) h
     refine ⟨lx,?_,h2⟩
     unfold Instr.fill
     rw[dY]
     simp only
     rw[if_neg (by simpa using Ul)]
     exact h1
end
section
variable {X:Ctx}{Q:Exit→St→Prop}{S S':St}{ops:Array Oper}{o:Oper}{rest:List Oper}{T:TypeId}{r q:dM}
def kH (X:Ctx) (S:St):List (Nat×Operand)→List (Nat×List D)
 |[]=>[]
 |(i,x)::l=>(i,(S.ev X x).cells)::kH X S l
def pj (X:Ctx) (S:St):List (Nat×Operand)→Bool
 |[]=>true
 |(_,x)::l=>aY (S.ev X x).cells&&pj X S l
def YT (fl:List (Nat×Nat×Bool)) (i:Nat):Option (Nat×Nat):=match nth fl i with|some (off,sz,_)=>some (off,sz)|none=>none
theorem Ap:∀ (l:List (Nat×Operand)) {κ:Nat→Nat→Option Value}{sv:Nat→Value}{a:Act}{w:World},bk X κ sv S a w→pj X S l=true→∀ (k i:Nat) (m:List D),(kH X S l)[k]?=some (i,m) →
  ∃ v:Value,(l.map fun (i,x)=>(i,a.eval x))[k]?=some (i,v)∧aD κ S.γ sv m v.cells.toList
 |[],_,_,_,_,_,_,k,i,m,h=>by simp[kH]at h
 |(i0,x)::l,_,_,a,_,hs,cj,0,i,m,h=>by
  simp only[pj,Bool.and_eq_true]at cj
  simp[kH]at h
  obtain ⟨rfl,rfl⟩:=h
  exact⟨a.eval x,by simp,((hs.ev x).cells cj.1).1⟩
 |(i0,x)::l,_,_,_,_,hs,cj,k+1,i,m,h=>by
  simp only[pj,Bool.and_eq_true]at cj
  obtain ⟨v,h1,h2⟩:=Ap l hs cj.2 k i m (by simpa[kH] using h)
  exact⟨v,by simpa using h1,h2⟩
theorem so:∀ (l:List (Nat×Operand)),(kH X S l).length=l.length
 |[]=>rfl
 |_::l=>by simp[kH,so l]
theorem anO {ps:Array (Nat×Operand)}{l:List D} (ho:o.op=.build T ps) (hr:nth X.Z.bL T=some r) (hk:Nat.beq r.k 1=true) (hp:pj X S ps.toList=true)
  (hb:yY (YT r.fl) (r.zs.map Zr.toD) (kH X S ps.toList)=some l):dy X o S (.agg l):=fun κ sv a w hs=>by
 have cj:=X.Z.bG _ _ hr (by intro e;rw[e]at hk;cases hk)
 obtain ⟨i,d,hi,hd,_,_,⟨z,hz,oe⟩,h4⟩:=du cj
 have jJ:=Nat.eq_of_beq_eq_true hk
 cases d<;>try (simp only at h4;omega)
 rename_i fs
 obtain ⟨_,gT,mR⟩:=h4
 have dY:fs.toList.mapM (fun f=>(X.Z.P.info? f.type).map fun i=>(f.offset,i.size))=some (fs.toList.map fun f=>(f.offset,X.Z.P.cellsOf f.type)):=by
  have:∀ l:List Field,l.all (fun f=>(X.Z.P.info? f.type).isSome&&(X.Z.P.underlying f.type).isSome)=true →
    l.mapM (fun f=>(X.Z.P.info? f.type).map fun i=>(f.offset,i.size))=some (l.map fun f=>(f.offset,X.Z.P.cellsOf f.type)):=by
   intro l
   induction l with
   |nil=>intro _;rfl
   |cons f l ih =>
    intro h
    simp only[List.all_cons,Bool.and_eq_true]at h
    obtain ⟨fi,hfi⟩:=Option.isSome_iff_exists.1 h.1.1
    simp[List.mapM_cons,hfi,ih (by simpa using h.2),Program.cellsOf]
  exact this _ mR
 have akg:(fun i=>(fs.toList.map fun f=>(f.offset,X.Z.P.cellsOf f.type)).toArray[i]?)=YT r.fl:=by
  funext i
  unfold YT
  rw[eU,← gT]
  simp only[List.getElem?_toArray,List.getElem?_map]
  cases fs.toList[i]?<;>rfl
 obtain ⟨lx,h1,h2⟩:=Dc (YT r.fl) (kH X S ps.toList) (ps.toList.map fun (i,x)=>(i,a.eval x)) (r.zs.map Zr.toD) l z.cells (by simp[so]) (Ap ps.toList hs hp) (uk oe) hb
 refine ⟨.agg lx,?_,fun w' _=>?_⟩
 ·have:=aW.agg _ _ h2;simpa using this
 ·have MD:X.Z.P.built T (ps.map fun (i,x)=>(i,a.eval x)).toList=some lx:=by
   unfold Program.built
   rw[hi,hd]
   simp only[hz,dY,akg]
   simpa using h1
  simp[execOp,ho,run_build w' T _ lx MD]
theorem ali {ps:Array (Nat×Operand)}{l:List D}{E:TypeId} (ho:o.op=.build T ps) (hr:nth X.Z.bL T=some r) (hk:Nat.beq r.k 2=true) (hE:r.el=E) (hq:nth X.Z.bL E=some q) (dF:Nat.beq q.k 9=false) (hp:pj X S ps.toList=true)
  (hb:yY (fun i=>some (i * q.sz,q.sz)) (r.zs.map Zr.toD) (kH X S ps.toList)=some l):dy X o S (.agg l):=fun κ sv a w hs=>by
 have cj:=X.Z.bG _ _ hr (by intro e;rw[e]at hk;cases hk)
 have dx:=X.Z.bG _ _ hq (by intro e;rw[e]at dF;cases dF)
 obtain ⟨i,d,hi,hd,_,_,⟨z,hz,oe⟩,h4⟩:=du cj
 obtain ⟨iq,dq,jA,uH,kB,_⟩:=du dx
 have jJ:=Nat.eq_of_beq_eq_true hk
 cases d<;>try (simp only at h4;omega)
 obtain ⟨_,_,hel⟩:=h4
 obtain ⟨lx,h1,h2⟩:=Dc (fun i=>some (i * q.sz,q.sz)) (kH X S ps.toList) (ps.toList.map fun (i,x)=>(i,a.eval x)) (r.zs.map Zr.toD) l z.cells (by simp[so]) (Ap ps.toList hs hp) (uk oe) hb
 refine ⟨.agg lx,?_,fun w' _=>?_⟩
 ·have:=aW.agg _ _ h2;simpa using this
 ·have MD:X.Z.P.built T (ps.map fun (i,x)=>(i,a.eval x)).toList=some lx:=by
   unfold Program.built
   rw[hi,hd]
   simp only[hz,hel,hE,jA,kB]
   simpa using h1
  simp[execOp,ho,run_build w' T _ lx MD]
def AS:Nat→List (Nat×Operand)→Option (List Operand)
 |_,[]=>some []
 |k,(i,x)::l=>bif Nat.beq i k then (AS (k+1) l).map (x::·) else none
theorem Hx:∀ {l:List (Nat×Operand)}{k:Nat}{xs:List Operand},AS k l=some xs→l=(xs.zipIdx k).map fun p=>(p.2,p.1)
 |[],k,xs,h=>by simp[AS]at h;subst h;rfl
 |(i,x)::l,k,xs,h=>by
  unfold AS at h
  cases hb:Nat.beq i k with
  |false=>rw[hb]at h;cases h
  |true =>
   rw[hb]at h
   have:=Nat.eq_of_beq_eq_true hb
   subst this
   simp only[cond_true,Option.map_eq_some_iff]at h
   obtain ⟨oq,h1,rfl⟩:=h
   rw[Hx h1]
   simp[List.zipIdx_cons]
def nL (X:Ctx) (S:St):List Operand→List (List D)
 |[]=>[]
 |x::l=>(S.ev X x).cells::nL X S l
def IF (z:Nat):List (List D)→Bool
 |[]=>true
 |c::l=>Nat.beq c.length z&&aY c&&IF z l
def vG (l:List (List D)) (i:Nat):List D:=match nth l i with|some c=>c|none=>[]
theorem qM {z:Nat}:∀ (ls:List (List Value)),(∀ c∈ls,c.length=z)→∀ i j,j<z→ls.flatten[i * z+j]?=(ls[i]?).bind (·[j]?)
 |[],_,i,j,_=>by simp
 |c::ls,h,0,j,hj=>by
  simp only[List.flatten_cons,Nat.zero_mul,Nat.zero_add]
  rw[List.getElem?_append_left (by rw[h c (by simp)];exact hj)]
  simp
 |c::ls,h,i+1,j,hj=>by
  have hc:c.length=z:=h c (by simp)
  rw[List.flatten_cons,List.getElem?_append_right (by rw[hc,Nat.add_mul];omega)]
  rw[show (i+1) * z+j - c.length=i * z+j from by rw[hc,Nat.add_mul];omega]
  simpa using qM ls (fun x hx=>h x (by simp[hx])) i j hj
theorem tq {z:Nat}:∀ (ls:List (List Value)),(∀ c∈ls,c.length=z)→ls.flatten.length=ls.length * z
 |[],_=>by simp
 |c::ls,h=>by simp only[List.flatten_cons,List.length_append,tq ls (fun x hx=>h x (by simp[hx])),h c (by simp),List.length_cons,Nat.add_mul];omega
theorem Bo {κ:Nat→Nat→Option Value}{sv:Nat→Value}{a:Act}{w:World} (hs:bk X κ sv S a w) {z:Nat}:∀ {xs:List Operand},IF z (nL X S xs)=true →
  (∀ i c,nth (nL X S xs) i=some c→c.length=z∧aY c=true∧∃ v:Value,(xs.map a.eval)[i]?=some v∧aD κ S.γ sv c v.cells.toList)∧(∀ v∈xs.map a.eval,v.cells.size=z∧∀ u∈v.cells.toList,u.oneCell'=true)
 |[],_=>by simp[nL,nth]
 |x::xs,h=>by
  simp only[nL,IF,Bool.and_eq_true]at h
  obtain ⟨⟨h1,h2⟩,h3⟩:=h
  obtain ⟨Fq,z7⟩:=Bo hs h3
  have hx:=(hs.ev x).cells h2
  have hl:=Nat.eq_of_beq_eq_true h1
  refine ⟨fun i c hc=>?_,fun v hv=>?_⟩
  ·cases i with
   |zero =>
    simp only[nL,nth,Option.some.injEq]at hc
    subst hc
    exact⟨hl,h2,_,by simp,hx.1⟩
   |succ i =>
    obtain ⟨e1,e2,v,e3,e4⟩:=Fq i c (by simpa[nL,nth] using hc)
    exact⟨e1,e2,v,by simpa using e3,e4⟩
  ·rw[List.map_cons]at hv
   rcases List.mem_cons.1 hv with rfl|hv
   ·have:=hx.1.length;simp at this;exact⟨by omega,hx.2⟩
   ·exact z7 v hv
theorem xp:∀ (xs:List Operand),(nL X S xs).length=xs.length
 |[]=>rfl
 |_::xs=>by simp[nL,xp xs]
theorem RD {κ:Nat→Nat→Option Value}{sv:Nat→Value}{a:Act}{w:World} (hs:bk X κ sv S a w) {ps:Array (Nat×Operand)}{n z:Nat}{xs:List Operand}{E:TypeId} (ho:o.op=.buildSlice T n ps) (kB:AS 0 ps.toList=some xs) (hn:Nat.beq xs.length n=true)
  (hr:nth X.Z.bL T=some r) (hk:Nat.beq r.k 3=true) (hE:r.el=E) (hq:nth X.Z.bL E=some q) (dF:Nat.beq q.k 9=false) (hz:q.sz=z) (iK:Nat.beq z 0=false) (yo:Nat.beq n 0=false) (QW:Nat.ble (n * z) 16777216=true) (cj:IF z (nL X S xs)=true) :
  (execOp a.eval o).run X.Z.P w=.ok (.value (.slice (some ⟨w.heap.size,0,none⟩) n n)) (w.alloc (.cells ((xs.map a.eval).map (·.cells.toList)).flatten.toArray E)) ∧
   ((xs.map a.eval).map (·.cells.toList)).flatten.length=n * z:=by
 have fY:=X.Z.bG _ _ hr (by intro e;rw[e]at hk;cases hk)
 have dx:=X.Z.bG _ _ hq (by intro e;rw[e]at dF;cases dF)
 obtain ⟨iq,dq,jA,uH,MU,_,⟨zv,j0,_⟩,_⟩:=du dx
 have hu:=dp fY hk
 rw[hE]at hu
 obtain ⟨_,iW⟩:=Bo hs cj
 have jK:0<z:=by
  cases z with
  |zero=>cases iK
  |succ z=>omega
 have hn1:0<n:=by
  cases n with
  |zero=>cases yo
  |succ n=>omega
 have hlen:xs.length=n:=Nat.eq_of_beq_eq_true hn
 have hle:n * z≤16777216:=Nat.le_of_ble_eq_true QW
 have Um:0<n * z:=Nat.mul_pos hn1 jK
 have akf:(ps.map fun (i,x)=>(i,a.eval x)).toList=((xs.map a.eval).zipIdx 0).map fun x=>(x.2,x.1):=by
  have:=Hx kB
  rw[Array.toList_map,this,List.zipIdx_map]
  simp[Function.comp_def]
 have gT:((xs.map a.eval).map (·.cells.toList)).flatten.length=n * z:=by
  rw[tq _ (z:=z) (fun c hc=>by
   obtain ⟨v,hv,rfl⟩:=List.mem_map.1 hc
   simpa using (iW v hv).1)]
  simp[hlen]
 have ads:=Great.fill_whole jK (xs.map a.eval) ((Array.range (n * iq.size)).map (zv.cells[· % zv.cells.size]!)) (fun v hv=>(iW v hv).1) (by simp[hlen,MU,hz])
 have bX:=run_buildSlice (P:=X.Z.P) w T E n (ps.map fun (i,x)=>(i,a.eval x)) _ iq zv hu jA j0 (by rw[MU,hz];simp only[Nat.not_lt,gt_iff_lt];exact Nat.le_trans hle (by decide)) (by rw[MU,hz];omega)
  (by rw[akf,MU,hz];rw[MU,hz]at ads;exact ads)
 refine ⟨?_,gT⟩
 have e:((xs.map a.eval).flatMap fun v=>v.cells.toList)=((xs.map a.eval).map (·.cells.toList)).flatten:=by simp[List.flatMap_def]
 rw[e]at bX
 simp[execOp,ho,bX]
theorem anD {ps:Array (Nat×Operand)}{n z t:Nat}{xs:List Operand}{E:TypeId}{cs:List (List D)} (ho:o.op=.buildSlice T n ps) (hd:o.dst=some t) (kB:AS 0 ps.toList=some xs) (hn:Nat.beq xs.length n=true)
  (hr:nth X.Z.bL T=some r) (hk:Nat.beq r.k 3=true) (hE:r.el=E) (hq:nth X.Z.bL E=some q) (dF:Nat.beq q.k 9=false) (hz:q.sz=z) (iK:Nat.beq z 0=false) (yo:Nat.beq n 0=false) (QW:Nat.ble (n * z) 16777216=true) (hc:nL X S xs=cs) (cj:IF z cs=true) :
  kf X o S (S.set t (.sl z n (vG cs))):=fun κ sv a w hs=>by
 subst hc
 obtain ⟨bX,gT⟩:=RD hs ho kB hn hr hk hE hq dF hz iK yo QW cj
 obtain ⟨cq,iW⟩:=Bo hs cj
 have hlen:xs.length=n:=Nat.eq_of_beq_eq_true hn
 let aA:Nat→Nat→Option Value:=fun b o=>if b=w.heap.size then ((xs.map a.eval).map (·.cells.toList)).flatten[o]? else κ b o
 have hle:Le κ aA S.γ S.γ sv sv:=by
  refine ⟨fun b o v hk=>?_,fun _=>Nat.le_refl _,fun _ _=>rfl⟩
  have:=World.block_lt_of_cell? w _ (hs.aJ.gU b o v hk)
  simp only[aA]
  rw[if_neg (by simp at this;omega)];exact hk
 have zS:∀ i,i<n→∃ c,nth (nL X S xs) i=some c∧vG (nL X S xs) i=c:=by
  intro i hi
  rw[eU]
  have:i<(nL X S xs).length:=by rw[xp,hlen];exact hi
  exact⟨(nL X S xs)[i],by simp[this],by simp[vG,eU,this]⟩
 refine ⟨_,_,aA,sv,.inl bX,?_⟩
 rw[hd]
 refine ⟨by rw[tT];exact hs.size,(hs.defers.later ((Below.refl _ _).alloc (Nat.le_refl _) _)).put _ _,?_,?_⟩
 ·refine hs.AW hle (some t) (.sl z n _ w.heap.size 0 n (fun i=>((xs.map a.eval).getD i Go.undef).cells.toList) (Nat.le_refl _) (fun i hi=>?_) (fun i hi=>?_) (fun i hi=>?_) (fun i j v hi hj=>?_))
  ·obtain ⟨c,h1,h2⟩:=zS i hi;rw[h2];exact(cq i c h1).1
  ·obtain ⟨c,h1,h2⟩:=zS i hi;rw[h2];exact(cq i c h1).2.1
  ·obtain ⟨c,h1,h2⟩:=zS i hi
   obtain ⟨_,_,v,h3,h4⟩:=cq i c h1
   rw[h2,show (xs.map a.eval).getD i Go.undef=v by simp[List.getD,h3]]
   exact h4.mono hle
  ·obtain ⟨c,h1,h2⟩:=zS i hi
   obtain ⟨hcz,_,v',h3,h4⟩:=cq i c h1
   have kD:(xs.map a.eval).getD i Go.undef=v':=by simp[List.getD,h3]
   rw[kD]at hj
   have hjz:j<z:=by
    have:=(iW v' (List.mem_of_getElem? h3)).1
    have h5:=(List.getElem?_eq_some_iff.1 hj).1
    simp at h5;omega
   simp only[aA,if_true,Nat.zero_add]
   rw[qM _ (z:=z) (fun c hc=>by
    obtain ⟨v,hv,rfl⟩:=List.mem_map.1 hc
    simpa using (iW v hv).1) i j hjz]
   simp only[List.getElem?_map]at h3 ⊢
   rw[h3]
   simpa using hj
 ·have hb:Below w.heap.size w (w.alloc (.cells ((xs.map a.eval).map (·.cells.toList)).flatten.toArray E)):=(Below.refl _ _).alloc (Nat.le_refl _) _
  have h1:=hs.aJ.later hb
  refine ⟨fun b o v hk=>?_,fun s=>dZ hle rfl (fun _ _=>rfl) (h1.own s),h1.inj,fun s b o bz=>?_,h1.oI,h1.frame,fun g l hg=>?_,fun b o v bz hk=>?_,h1.ba,h1.base,h1.le.trans hle,fun b o v hk=>?_,h1.aw2,h1.PG,h1.gz0⟩
  ·simp only[aA]at hk
   split at hk
   ·rename_i e;subst e
    rw[World.cell?_alloc_new];simpa using hk
   ·exact h1.gU b o v hk
  ·have:=cP (hs.aJ.own s) bz
   simp only[aA]
   rw[if_neg (by omega)];exact h1.sep s b o bz
  ·obtain ⟨hc,u,hu,hk⟩:=h1.nU g l hg
   exact⟨hc,u,hu.mono hle,fun j v hj=>hle.cells _ _ _ (hk j v hj)⟩
  ·have:=hs.aJ.base
   simp only[aA]at hk
   rw[if_neg (by omega)]at hk
   exact hs.aJ.nf b o v bz hk
  ·simp only[aA]at hk
   split at hk
   ·rename_i e;subst e;intro hT;have:=hs.aJ.PG _ hT;omega
   ·exact h1.aw1 b o v hk
end
end Go.Ab
namespace Go.Ab
open Go Go.RowKit
section
variable {X:Ctx}{Q:Exit→St→Prop}{S S':St}{ops:Array Oper}{o:Oper}{rest:List Oper}{T:TypeId}{r q:dM}
def St.owned (S:St) (i s:Nat) (ow:Own):St:=⟨aG S.ρ i (.os s (S.γ s+1)),aG S.γ s (S.γ s+1),aG S.σ s ow⟩
theorem fk {κ:Nat→Nat→Option Value}{sv:Nat→Value}{a:Act}{w w':World} (hs:bk X κ sv S a w) (i s:Nat) {pv:Value} (XF:pv.oneCell'=true) {ow:Own} (hg:w.grownBy w' (aL (S.σ s) (sv s)))
  (hf:∀ b,aL ow pv=some b→(w.heap.size≤b∨aL (S.σ s) (sv s)=some b)) (ho:fB (X.base s) κ (aG S.γ s (S.γ s+1)) (aG sv s pv) w' s ow) :
  bk X κ (aG sv s pv) (S.owned i s ow) (a.put (some i) pv) w':=by
 have hle:=eY κ S.γ sv s pv
 refine ⟨by rw[tT];exact hs.size,(ib hs s hg).put _ _,?_,hs.aJ.renew s ow pv hg hf ho _⟩
 exact hs.AW hle (some i) (.os _ _ _ (by rw[aC];exact Nat.le_refl _) (fun _=>(aC _ _ _).symm) XF)
theorem rY:∀ {zs:List Zr}{vs:List Value},Zr.xu zs vs=true→vs.length=zs.length
 |[],[],_=>rfl
 |[],_::_,h=>by cases h
 |_::_,[],h=>by cases h
 |_::zs,_::vs,h=>by simp only[Zr.xu,Bool.and_eq_true]at h;simp[rY h.2]
theorem Uy {zc:Array Value}{z n i:Nat} (hz:zc.size=z) (hi:i<n):((madeCells zc (n * z)).toList.drop (i * z)).take z=zc.toList:=by
 have QO:i * z+z≤n * z:=by have:=Nat.mul_le_mul_right z (show i+1≤n by omega);rw[Nat.add_mul]at this;omega
 apply List.ext_getElem?
 intro j
 simp only[List.getElem?_take,List.getElem?_drop]
 by_cases hj:j<z
 ·rw[if_pos hj]
  have h1:i * z+j<n * z:=by omega
  have h2:(i * z+j) % z=j:=by rw[Nat.mul_comm,Nat.mul_add_mod,Nat.mod_eq_of_lt hj]
  simp[madeCells,h1,hz,h2,hj]
 ·rw[if_neg hj,List.getElem?_eq_none (by simp;omega)]
theorem akX {x y:Operand}{k:Int}{t z:Nat}{E:TypeId} (ho:o.op=.makeSlice T x y) (hd:o.dst=some t) (hx:S.ev X x=.int .i64 k) (hy:S.ev X y=.int .i64 k) (h0:0≤k)
  (hr:nth X.Z.bL T=some r) (hk:Nat.beq r.k 3=true) (hE:r.el=E) (hq:nth X.Z.bL E=some q) (dF:Nat.beq q.k 9=false) (hz:q.sz=z) (nO:Nat.beq q.zs.length z=true) (hb:k * q.bytes≤281474976710656) (EZ:k≤281474976710656) :
  kf X o S (S.owned t t (.arr E z k.toNat (fun _=>q.zs.map Zr.toD))):=fun κ sv a w hs=>by
 have fY:=X.Z.bG _ _ hr (by intro e;rw[e]at hk;cases hk)
 have dx:=X.Z.bG _ _ hq (by intro e;rw[e]at dF;cases dF)
 obtain ⟨iq,dq,jA,uH,kB,pO,⟨zv,j0,oe⟩,_⟩:=du dx
 have hu:=dp fY hk
 rw[hE]at hu
 obtain ⟨n,rfl⟩:=Int.eq_ofNat_of_zero_le h0
 have tw:iq.bytes * n≤281474976710656:=by
  rw[pO,Nat.mul_comm]
  have h:((n * q.bytes:Nat):Int)≤281474976710656:=by rw[Int.natCast_mul];exact hb
  omega
 obtain ⟨w',bX,aP,cG⟩:=run_make_full (P:=X.Z.P) w (X.base t) T E iq zv z hu jA j0 (by rw[kB,hz]) .i64 .i64 n tw (by unfold maxLen;omega) (hs.aJ.lT _)
 have qv:zv.cells.size=z:=by have:=rY oe;have h2:=Nat.eq_of_beq_eq_true nO;simp at this;omega
 have bz:Below w.heap.size w w':=⟨cG.os,cG.tape,cG.output,cG.size,fun k hk=>cG.block k hk (by simp)⟩
 rw[hd]
 refine ⟨_,w',κ,_,.inl ?_,fk hs t t (pv:=.slice (some ⟨w.heap.size,0,none⟩) n n) rfl (cL bz _) (fun b hb=>by simp only[aL,Option.some.injEq]at hb;exact .inl (by omega)) ?_⟩
 ·simp only[execOp,ho,dQ hs hx,dQ hs hy]
  have:((n:Nat):Int)=Int.ofNat n:=rfl
  simp[bX]
 ·simp only[Int.toNat_natCast]
  refine ⟨_,by rw[aC];exact rT aP,fun i _=>?_,fun i _=>wU _,fun i hi=>?_⟩
  ·have:=Nat.eq_of_beq_eq_true nO;simp[this]
  ·rw[Uy qv hi];exact uk oe
theorem xw {z:Nat} (u:Nat→List Value) (m:Nat) (hu:∀ i,i<m→(u i).length=z):∀ i,i<m→((((List.range m).map u).flatten).drop (i * z)).take z=u i:=by
 intro i hi
 apply List.ext_getElem?
 intro j
 simp only[List.getElem?_take,List.getElem?_drop]
 by_cases hj:j<z
 ·rw[if_pos hj,qM _ (z:=z) (fun c hc=>by
   obtain ⟨k,hk,rfl⟩:=List.mem_map.1 hc
   exact hu k (by simpa using hk)) i j hj]
  simp[hi]
 ·rw[if_neg hj,List.getElem?_eq_none (by rw[hu i hi];omega)]
theorem gJ {xs ys:List Value}{z i n:Nat} (hx:xs.length=n * z) (hi:i<n):((xs++ys).drop (i * z)).take z=(xs.drop (i * z)).take z:=by
 have QO:i * z+z≤n * z:=by have:=Nat.mul_le_mul_right z (show i+1≤n by omega);rw[Nat.add_mul]at this;omega
 rw[List.drop_append_of_le_length (by omega),List.take_append_of_le_length (by simp;omega)]
theorem iN {xs ys:List Value}{z i n:Nat} (hx:xs.length=n * z):((xs++ys).drop ((n+i) * z)).take z=(ys.drop (i * z)).take z:=by
 rw[List.drop_append,List.drop_eq_nil_of_le (by rw[hx,Nat.add_mul];omega),hx,List.nil_append]
 congr 2
 rw[Nat.add_mul];omega
theorem kR {w:World}{b b':Nat}{e:TypeId}{z n:Nat}{v:Value}{xs:List Value} (h:eo w b e z v n xs) (hb:b'≤b):eo w b' e z v n xs:=by
 refine ⟨h.1,?_⟩
 rcases h.2 with hn|⟨g,off,cap,cur,h1,h2,rest⟩
 ·exact .inl hn
 ·exact .inr ⟨g,off,cap,cur,h1,Nat.le_trans hb h2,rest⟩
theorem l8 {P:Program}{w:World} (base:Nat) (t ty e:TypeId) (i:TypeInfo) (size:Nat) (ht:P.underlying t=some (.slice e)) (hi:P.info? e=some i)
  (v:Value) (n:Nat) (xs:List Value) (aP:eo w base e size v n xs) :
  (Builtin.append_ #[t,t] ty #[v,.slice none 0 0]).run P w=.ok v w:=by
 rcases aP.2 with ⟨rfl,rfl⟩|⟨g,off,cap,cur,rfl,_,_,iX,_⟩
 ·simp[Builtin.append_,run_underlying ht,sizeOf,typeInfo,hi,Builtin.lenOf,Builtin.firstCells]
 ·simp[Builtin.append_,run_underlying ht,sizeOf,typeInfo,hi,Builtin.lenOf,Builtin.firstCells,iX,storeCells]
theorem yM {P:Program}{w:World} (t ty e:TypeId) (i:TypeInfo) (ht:P.underlying t=some (.slice e)) (hi:P.info? e=some i)
  (g off oP DL:Nat) (cur:Array Value) (hg:w.heap[g]?=some (.cells cur e (0,0)))
  (a:Addr) (m c:Nat) (news:List Value) (hl:news.length=m * i.size) (ld:∀ j u,news[j]?=some u→w.cell? (a.add j)=some u) (h1:∀ u∈news,u.oneCell'=true)
  (rA:oP+m≤DL) (Dk:off+oP * i.size+news.length≤cur.size) :
  (Builtin.append_ #[t,t] ty #[.slice (some ⟨g,off,none⟩) oP DL,.slice (some a) m c]).run P w =
   .ok (.slice (some ⟨g,off,none⟩) (oP+m) DL) (w.setRow g (cur.toList.take (off+oP * i.size)++news++cur.toList.drop (off+oP * i.size+news.length)).toArray):=by
 have hf:=run_firstCells_some (P:=P) w i.size m a m c news hl ld
 have jn:=run_storeCells_at P g (off+oP * i.size) e news 0 cur w hg (by simpa using Dk) h1
 simp only[Nat.add_zero]at jn
 have MB:∀ k,(⟨g,off,none⟩:Addr).add k=⟨g,off+k,none⟩:=fun k=>by unfold Addr.add;split<;>simp_all
 simp[Builtin.append_,run_underlying ht,sizeOf,typeInfo,hi,Builtin.lenOf,rA,hf,MB,jn]
theorem im {P:Program}{w:World} (base:Nat) (t ty e:TypeId) (i:TypeInfo) (z:Value) (size bytes:Nat) (ht:P.underlying t=some (.slice e)) (hi:P.info? e=some i) (hz:i.zero=some z)
  (xC:i.size=size) (XJ:i.bytes=bytes) (nO:z.cells.size=size) (kC:0<size)
  (v:Value) (n:Nat) (xs:List Value) (aP:eo w base e size v n xs)
  (a:Addr) (m c:Nat) (news:List Value) (hl:news.length=m * size) (ld:∀ j u,news[j]?=some u→w.cell? (a.add j)=some u) (h1:∀ u∈news,u.oneCell'=true)
  (QH:n+m≤maxLen) (tw:(n+m) * bytes≤140737488355328) (dj:base≤w.heap.size) :
  ∃ v' w',(Builtin.append_ #[t,t] ty #[v,.slice (some a) m c]).run P w=.ok v' w'∧eo w' base e size v' (n+m) (xs++news)∧w.grownBy w' v.ownBlock ∧
   (∀ b,v'.ownBlock=some b→w.heap.size≤b∨v.ownBlock=some b):=by
 rcases aP.2 with ⟨rfl,rfl⟩|⟨g,off,cap,cur,rfl,QL,hg,iX,rP,jZ,gR⟩
 ·have hx:xs=[]:=List.eq_nil_of_length_eq_zero (by simpa using aP.1)
  subst hx
  obtain ⟨v',w',h2,h3,h4,_⟩:=run_append_own (P:=P) w w.heap.size t ty e i z size bytes ht hi hz xC XJ nO kC (.slice none 0 0) 0 [] (World.ownsRow_nil _ _ _ _) a m c news hl ld h1 QH tw (Nat.le_refl _)
  exact⟨v',w',h2,kR (rT h3) dj,h4,fun b hb=>.inl (h3.lt b hb).1⟩
 ·by_cases rA:n+m≤cap
  ·have hlen:(xs++news).length=(n+m) * size:=by rw[List.length_append,aP.1,hl,Nat.add_mul]
   have QR:(n+m) * size≤cap * size:=Nat.mul_le_mul_right _ rA
   have hm3:(n+m) * size=n * size+m * size:=Nat.add_mul _ _ _
   subst xC
   have hr:=yM (P:=P) (w:=w) t ty e i ht hi g off n cap cur hg a m c news hl ld h1 rA (by omega)
   refine ⟨_,_,hr,⟨hlen,.inr ⟨g,off,cap,_,rfl,QL,setRow_heap w g cur _ e _ hg,rA,rP,?_,?_⟩⟩,⟨rfl,rfl,rfl,by simp,fun k _ hk=>setRow_other w g k _ (fun e=>hk (by simp[Value.ownBlock,e]))⟩,fun b hb=>.inr hb⟩
   ·simp only[List.size_toArray,List.length_append,List.length_take,List.length_drop,Array.length_toList]
    omega
   ·have e1:(cur.toList.take (off+n * i.size)++news++cur.toList.drop (off+n * i.size+news.length)).drop off=(cur.toList.drop off).take (n * i.size)++news++cur.toList.drop (off+n * i.size+news.length):=by
     rw[List.append_assoc,List.drop_append,List.length_take,Array.length_toList,Nat.min_eq_left (by omega),show off - (off+n * i.size)=0 by omega,List.drop_zero,List.drop_take,List.append_assoc]
     rw[show off+n * i.size - off=n * i.size by omega]
    rw[List.toList_toArray,e1,gR,← hlen]
    exact List.take_left
  ·have holds:∀ j u,xs[j]?=some u→w.cell? ((⟨g,off,none⟩:Addr).add j)=some u:=aP.cells
   obtain ⟨v',w',h2,h3,h4⟩:=run_append_arg_grows (P:=P) (w:=w) t ty e i z size bytes ht hi hz xC XJ nO kC ⟨g,off,none⟩ n cap xs aP.1 holds a m c news hl ld (by omega) QH tw
   exact⟨v',w',h2,kR (rT h3) dj,⟨h4.os,h4.tape,h4.output,h4.size,fun k hk _=>h4.block k hk (by simp)⟩,fun b hb=>.inl (h3.lt b hb).1⟩
theorem anB {x y:Operand}{s g z n m t n':Nat}{E:TypeId}{f h f':Nat→List D}{ts:Array TypeId} (ho:o.op=.call { callee:=.builtin .append,args:=#[x,y],argTypes:=ts }) (fW:ts=#[T,T]) (hd:o.dst=some t)
  (hx:S.ev X x=.os s g) (hg:S.γ s=g) (aF:S.σ s=.arr E z n f) (hy:S.ev X y=.sl z m h)
  (hr:nth X.Z.bL T=some r) (hk:Nat.beq r.k 3=true) (hE:r.el=E) (hq:nth X.Z.bL E=some q) (dF:Nat.beq q.k 9=false) (hz:q.sz=z) (nO:Nat.beq q.zs.length z=true) (iK:Nat.beq z 0=false)
  (hb:(n+m) * q.bytes≤140737488355328) (hm:n+m≤140737488355328) (od:n'=n+m) (h1:∀ i,i<n→f' i=f i) (h2:∀ i,i<m→f' (n+i)=h i) :
  kf X o S (S.owned t s (.arr E z n' f')):=fun κ sv a w hs=>by
 subst fW od
 have fY:=X.Z.bG _ _ hr (by intro e;rw[e]at hk;cases hk)
 have dx:=X.Z.bG _ _ hq (by intro e;rw[e]at dF;cases dF)
 obtain ⟨iq,dq,jA,uH,kB,pO,⟨zv,j0,oe⟩,_⟩:=du dx
 have hu:=dp fY hk
 rw[hE]at hu
 have fq:=hs.aJ.own s
 rw[aF]at fq
 obtain ⟨xs,aP,gT,mS,eI⟩:=fq
 have cH:=hs.ev x
 rw[hx]at cH
 have gk:a.eval x=sv s:=by
  generalize a.eval x=v at cH
  cases cH with
  |os _ _ _ _ hh _=>exact hh hg.symm
 have eB:=hs.ev y
 rw[hy]at eB
 have qv:zv.cells.size=z:=by have:=rY oe;have h2:=Nat.eq_of_beq_eq_true nO;simp at this;omega
 have jK:0<z:=by
  cases z with
  |zero=>cases iK
  |succ z=>omega
 have hle:∀ pv,Le κ κ S.γ (aG S.γ s (S.γ s+1)) sv (aG sv s pv):=eY κ S.γ sv s
 have bS:xs.length=n * z:=aP.1
 rw[hd]
 generalize fG:a.eval y=yv at eB
 cases eB with
 |lI =>
  have bX:=l8 (P:=X.Z.P) (w:=w) (X.base s) T o.type E iq z hu jA (sv s) n xs aP
  refine ⟨sv s,w,κ,_,.inl ?_,fk hs t s (pv:=sv s) ?_ (cL (Below.refl _ _) _) (fun b hb=>?_) ?_⟩
  ·simp[execOp,ho,resolve,invoke,builtin,gk,fG,bX]
  ·rcases aP.2 with ⟨e,_⟩|⟨_,_,_,_,e,_⟩<;>rw[e]<;>rfl
  ·rw[aF]
   right
   rcases aP.2 with ⟨e,_⟩|⟨_,_,_,_,e,_⟩<;>(rw[e]at hb ⊢;exact hb)
  ·refine ⟨xs,by rw[aC];exact aP,fun i hi=>?_,fun i hi=>?_,fun i hi=>?_⟩<;>rw[h1 i (by omega)]
   ·exact gT i hi
   ·exact mS i hi
   ·exact(eI i hi).mono (hle _)
 |kV _ _ ad cap =>
  obtain ⟨v',w',bX,eN,cG,tH⟩:=im (P:=X.Z.P) (w:=w) (X.base s) T o.type E iq zv z q.bytes hu jA j0 (by rw[kB,hz]) (by rw[pO]) qv jK (sv s) n xs aP ad 0 cap [] (by simp)
   (fun j v hj=>by simp at hj) (fun v hv=>by simp at hv) (by unfold maxLen;omega) hb (hs.aJ.lT _)
  have zT:(sv s).ownBlock=aL (S.σ s) (sv s):=by
   rw[aF]
   rcases aP.2 with ⟨e,_⟩|⟨_,_,_,_,e,_⟩<;>rw[e]<;>rfl
  rw[zT]at cG
  refine ⟨v',w',κ,_,.inl ?_,fk hs t s (pv:=v') ?_ cG (fun b' bz=>?_) ?_⟩
  ·simp[execOp,ho,resolve,invoke,builtin,gk,fG,bX]
  ·rcases eN.2 with ⟨e,_⟩|⟨_,_,_,_,e,_⟩<;>rw[e]<;>rfl
  ·rw[← zT]
   refine tH b' ?_
   rcases eN.2 with ⟨e,_⟩|⟨_,_,_,_,e,_⟩<;>(rw[e]at bz ⊢;exact bz)
  ·refine ⟨_,by rw[aC];exact eN,fun i hi=>?_,fun i hi=>?_,fun i hi=>?_⟩<;>rw[h1 i (by omega)]
   ·exact gT i (by omega)
   ·exact mS i (by omega)
   ·simp only[List.append_nil];exact(eI i (by omega)).mono (hle _)
 |sl _ _ _ b off cap u QS Fb oa zX bQ =>
  have pS:∀ i,i<m→(u i).length=z:=fun i hi=>by rw[(zX i hi).length,Fb i hi]
  have kj:(((List.range m).map u).flatten).length=m * z:=by
   rw[tq _ (z:=z) (fun c hc=>by
    obtain ⟨k,hk,rfl⟩:=List.mem_map.1 hc
    exact pS k (by simpa using hk))]
   simp
  have pd:∀ j v,(((List.range m).map u).flatten)[j]?=some v→∃ i k,i<m∧k<z∧j=i * z+k∧(u i)[k]?=some v:=by
   intro j v hj
   have mT:=(List.getElem?_eq_some_iff.1 hj).1
   rw[kj]at mT
   have hk:j % z<z:=Nat.mod_lt _ jK
   have hi:j / z<m:=(Nat.div_lt_iff_lt_mul jK).2 mT
   have e:j=j / z * z+j % z:=by rw[Nat.mul_comm];exact(Nat.div_add_mod j z).symm
   refine ⟨j / z,j % z,hi,hk,e,?_⟩
   rw[e,qM _ (z:=z) (fun c hc=>by
    obtain ⟨k,hk,rfl⟩:=List.mem_map.1 hc
    exact pS k (by simpa using hk)) _ _ hk]at hj
   simpa[hi] using hj
  obtain ⟨v',w',bX,eN,cG,tH⟩:=im (P:=X.Z.P) (w:=w) (X.base s) T o.type E iq zv z q.bytes hu jA j0 (by rw[kB,hz]) (by rw[pO]) qv jK (sv s) n xs aP ⟨b,off,none⟩ m cap (((List.range m).map u).flatten) kj
   (fun j v hj=>by
    obtain ⟨i,k,hi,hk,rfl,hv⟩:=pd j v hj
    rw[addr_add,← Nat.add_assoc]
    exact hs.aJ.gU _ _ _ (bQ i k v hi hv))
   (fun v hv=>by
    obtain ⟨j,hj⟩:=List.getElem?_of_mem hv
    obtain ⟨i,k,hi,hk,rfl,hv⟩:=pd j v hj
    exact aD.lg (zX i hi) (oa i hi) v (List.mem_of_getElem? hv))
   (by unfold maxLen;omega) hb (hs.aJ.lT _)
  have zT:(sv s).ownBlock=aL (S.σ s) (sv s):=by
   rw[aF]
   rcases aP.2 with ⟨e,_⟩|⟨_,_,_,_,e,_⟩<;>rw[e]<;>rfl
  rw[zT]at cG
  refine ⟨v',w',κ,_,.inl ?_,fk hs t s (pv:=v') ?_ cG (fun b' bz=>?_) ?_⟩
  ·simp[execOp,ho,resolve,invoke,builtin,gk,fG,bX]
  ·rcases eN.2 with ⟨e,_⟩|⟨_,_,_,_,e,_⟩<;>rw[e]<;>rfl
  ·rw[← zT]
   refine tH b' ?_
   rcases eN.2 with ⟨e,_⟩|⟨_,_,_,_,e,_⟩<;>(rw[e]at bz ⊢;exact bz)
  ·refine ⟨_,by rw[aC];exact eN,fun i hi=>?_,fun i hi=>?_,fun i hi=>?_⟩
   ·by_cases eJ:i<n
    ·rw[h1 i eJ];exact gT i eJ
    ·obtain ⟨k,rfl⟩:∃ k,i=n+k:=⟨i - n,by omega⟩
     rw[h2 k (by omega)];exact Fb k (by omega)
   ·by_cases eJ:i<n
    ·rw[h1 i eJ];exact mS i eJ
    ·obtain ⟨k,rfl⟩:∃ k,i=n+k:=⟨i - n,by omega⟩
     rw[h2 k (by omega)];exact oa k (by omega)
   ·by_cases eJ:i<n
    ·rw[h1 i eJ,gJ bS eJ];exact(eI i eJ).mono (hle _)
    ·obtain ⟨k,rfl⟩:∃ k,i=n+k:=⟨i - n,by omega⟩
     rw[h2 k (by omega),iN bS,xw u m pS k (by omega)]
     exact(zX k (by omega)).mono (hle _)
theorem Gv {κ:Nat→Nat→Option Value}{sv:Nat→Value}{w:World} (h:cE X κ sv S w) {s E z n:Nat}{f:Nat→List D} (aF:S.σ s=.arr E z n f) (wg:X.xa s=false):∀ b,aL (S.σ s) (sv s)=some b→X.w0.heap.size≤b:=by
 intro b hb
 have:=h.own s
 rw[aF]at this hb
 obtain ⟨xs,e1,_⟩:=this
 rcases e1.2 with ⟨hv,_⟩|⟨g,off,cap,cur,hv,dj,_⟩
 ·rw[hv]at hb;cases hb
 ·rw[hv]at hb;simp only[aL,Option.some.injEq]at hb;subst hb;rw[← Ctx.aeW wg];exact dj
theorem sL {κ aA:Nat→Nat→Option Value}{sv:Nat→Value}{w:World} (h:cE X κ sv S w) {s E z n:Nat}{f:Nat→List D} (aF:S.σ s=.arr E z n f) (hle:Le κ aA S.γ S.γ sv sv)
  (bQ:∀ b o v,aL (S.σ s) (sv s)=some b→w.cell? ⟨b,o,none⟩=some v→aA b o=some v):aW aA S.γ sv (.sl z n f) (sv s):=by
 have:=h.own s
 rw[aF]at this bQ
 obtain ⟨xs,e1,e2,e3,e4⟩:=this
 rcases e1.2 with ⟨hv,hn⟩|⟨g,off,cap,cur,hv,dj,hg,iX,rP,kC,gR⟩
 ·rw[hv,hn];exact .lI _ _
 ·rw[hv]at bQ ⊢
  refine .sl z n f g off cap (fun i=>(xs.drop (i * z)).take z) iX e2 e3 (fun i hi=>(e4 i hi).mono hle) (fun i j v hi hj=>?_)
  obtain ⟨hjz,hx⟩:=zL hj
  refine bQ g _ v rfl ?_
  rw[cell_of_row w g _ _ _ _ hg]
  rw[← gR,List.getElem?_take]at hx
  split at hx
  ·rw[List.getElem?_drop]at hx;simpa[Nat.add_assoc] using hx
  ·cases hx
theorem ZJ (i:Nat) {s g E z n:Nat}{f:Nat→List D} (h:S.ρ i=.os s g) (hg:S.γ s=g) (aF:S.σ s=.arr E z n f) (wg:X.xa s=false:=by rfl):Wk X S ⟨aG S.ρ i (.sl z n f),S.γ,aG S.σ s .none⟩:=fun κ sv a w hs=>by
 have hle:=rO hs.aJ s
 refine ⟨_,sv,⟨hs.size,hs.defers,fun j hj=>?_,hs.aJ.freeze s (Gv hs.aJ aF wg) _⟩⟩
 by_cases e:j=i
 ·subst e
  simp only[aC]
  have h1:=hs.slot j hj
  rw[h]at h1
  have hv:a.tmps.getD j Go.undef=sv s:=by
   generalize a.tmps.getD j Go.undef=v at h1
   cases h1 with
   |os _ _ _ _ hh _=>exact hh hg.symm
  rw[hv]
  exact sL hs.aJ aF hle (fun b o v hb hc=>by simp[hb,hc])
 ·simp only[bh _ _ _ _ e];exact(hs.slot j hj).mono hle
def Sf (ρ rZ:Nat→D):Nat→Prop
 |0=>True
 |n+1=>(rZ n=.undef∨rZ n=ρ n)∧Sf ρ rZ n
theorem Sf.at {ρ rZ:Nat→D}:∀ {n:Nat},Sf ρ rZ n→∀ i,i<n→rZ i=.undef∨rZ i=ρ i
 |0,_,i,hi=>by omega
 |n+1,h,i,hi=>by
  by_cases e:i=n
  ·subst e;exact h.1
  ·exact Sf.at h.2 i (by omega)
end
end Go.Ab
namespace Go.Ab
open Go Go.RowKit
abbrev gO:Nat→Nat:=fun _=>0
abbrev eV:Nat→Value:=fun _=>Go.undef
def iA (Z:Seat) (κ:Nat→Nat→Option Value) (w:World):Prop:=(∀ g l,Z.nU g=some l→aY l=true∧∃ u,aD κ gO eV l u∧∀ j v,u[j]?=some v→κ g j=some v)∧∀ g n,Z.zM g=some n→jH w g n
def fp (κ:Nat→Nat→Option Value) (w w':World):Nat→Nat→Option Value:=fun b o=>if b<w.heap.size then κ b o else w'.cell? ⟨b,o,none⟩
def Fits (κ:Nat→Nat→Option Value) (w:World):Prop:=∀ b o v,κ b o=some v→w.cell? ⟨b,o,none⟩=some v
def gD (P : Program) (f : FuncId) : Prop := ∃ fn c, P.funcs[f]? = some fn ∧ fn.body = some c ∧ (fn.name == "runtime.NumGoroutine") = false
structure ep (Z:Seat) (f:FuncId) (A:List D) (R:D):Prop where
 j6:ab A
 FV:Pure R
 body:gD Z.P f
 calls:∀ (w:World) (κ:Nat→Nat→Option Value) (args:List Value),Fits κ w→iA Z κ w→aD κ gO eV A args →
  Calls Z.P f args.toArray w fun e w'=>∃ v,e=.returned v∧aW (fp κ w w') gO eV R v∧Below w.heap.size w w'
structure mw (Z:Seat) (f:FuncId) (l l':List D) (A:List D) (R:D):Prop where
 j6:ab A
 FV:Pure R
 sP:ab l
 om:ab l'
 xf:aY l'=true
 body:gD Z.P f
 calls:∀ (w:World) (κ:Nat→Nat→Option Value) (args:List Value) (b:Nat) (T:TypeId) (cs:List Value),Fits κ w→(∀ o,κ b o=none)→w.heap[b]?=some (.cells (List.toArray cs) T (0,0))→aD κ gO eV l cs→iA Z κ w→aD κ gO eV A args →
  Calls Z.P f (Value.pointer (some ⟨b,0,none⟩)::args).toArray w fun e w'=>∃ v sC T',e=.returned v∧w'.heap[b]?=some (.cells (List.toArray sC) T' (0,0))∧aD (fp κ w w') gO eV l' sC ∧
   aW (fp κ w w') gO eV R v∧Frame (some b) w w'
theorem nw {P:Program}{f:FuncId} (h:gD P f) {o:Oper}{a:Act}{w:World}{xs:Array Operand}{ts:Array TypeId} (ho:o.op=.call { callee:=.value (.func f),args:=xs,argTypes:=ts }) :
  (execOp a.eval o).run P w=.ok (.enter f (xs.toList.map a.eval).toArray) w:=by
 obtain ⟨fn,c,h1,h2,h3⟩:=h
 have h4:execOp a.eval o=callFunc f (#[]++xs.map a.eval++#[]):=by
  unfold execOp;rw[ho];rfl
 rw[h4]
 have h5:(#[]++xs.map a.eval++#[])=(xs.toList.map a.eval).toArray:=by simp[← Array.toList_map]
 rw[h5]
 have h6 : ¬ fn.name = "runtime.NumGoroutine" := by simpa using h3
 simp[callFunc,h1,h2,h6]
section
variable {X:Ctx}{S S':St}{κ:Nat→Nat→Option Value}{sv:Nat→Value}{a:Act}{w w':World}
theorem bk.fits (h:cE X κ sv S w):Fits κ w:=h.gU
theorem bk.jY (h:cE X κ sv S w):iA X.Z κ w:=⟨fun g l hg=>by
 obtain ⟨h1,u,h2,h3⟩:=h.nU g l hg
 exact⟨h1,u,h2.pure (fun _ _ _ h=>h) (X.Z.qQ g l hg),h3⟩,fun g n hg=>by
 obtain ⟨h1,h2,h3,h4⟩:=h.gz0 g n hg
 obtain ⟨M,h6,_⟩:=h.frame
 exact X.fr M w h6 g n hg h1 h2 h3 h4⟩
theorem lM {Z:Seat}{w:World}{κ:Nat→Nat→Option Value} (hg:iA Z κ w) {ext:Option Nat}{ex:Nat→Prop} (h1:∀ b,ext=some b→∀ o,κ b o=none) (h2:∀ b,ex b→∀ o,κ b o=none):∀ g n,Z.zM g=some n→g<w.heap.size∧ext≠some g∧¬ ex g∧jH w g n:=fun g n hn=>by
 obtain ⟨l,e1,e2⟩:=Z.Ue g n hn
 obtain ⟨_,u,e3,e4⟩:=hg.1 g l e1
 have key:∃ v,κ g 0=some v:=by
  cases e3 with
  |nil=>exact absurd rfl e2
  |cons d v l vs _ _=>exact⟨v,e4 0 v rfl⟩
 obtain ⟨v,key⟩:=key
 obtain ⟨cs,T,fr,e5,e6⟩:=hg.2 g n hn
 exact⟨(Array.getElem?_eq_some_iff.1 e5).1,(fun e=>by rw[h1 g e 0]at key;cases key),(fun e=>by rw[h2 g e 0]at key;cases key),cs,T,fr,e5,e6⟩
theorem oK {γ:Nat→Nat} (hf:Fits κ w) (w':World):Le κ (fp κ w w') γ γ sv sv :=
 ⟨fun b o v hk=>by
  have:=World.block_lt_of_cell? w _ (hf b o v hk)
  simp only[fp];rw[if_pos (by simpa using this)];exact hk,fun _=>Nat.le_refl _,fun _ _=>rfl⟩
theorem cE.grow (h:cE X κ sv S w) (hb:Below w.heap.size w w'):cE X (fp κ w w') sv S w':=by
 have hle:Le κ (fp κ w w') S.γ S.γ sv sv:=oK h.gU w'
 have h1:=h.later hb
 refine ⟨fun b o v hk=>?_,fun s=>dZ hle rfl (fun _ _=>rfl) (h1.own s),h1.inj,fun s b o hs=>?_,h1.oI,h1.frame,fun g l hg=>?_,fun b o v cz hk=>?_,h1.ba,h1.base,h1.le.trans hle,fun b o v hk=>?_,h1.aw2,h1.PG,h1.gz0⟩
 ·simp only[fp]at hk
  split at hk
  ·exact h1.gU b o v hk
  ·exact hk
 ·have:=cP (h.own s) hs
  simp only[fp];rw[if_pos this];exact h.sep s b o hs
 ·obtain ⟨hc,u,hu,hk⟩:=h1.nU g l hg
  exact⟨hc,u,hu.mono hle,fun j v hj=>hle.cells _ _ _ (hk j v hj)⟩
 ·have:=h.base
  simp only[fp]at hk
  rw[if_pos (by omega)]at hk
  exact h.nf b o v cz hk
 ·simp only[fp]at hk
  split at hk
  ·exact h1.aw1 b o v hk
  ·intro hT;have:=h.PG b hT;omega
end
section
variable {X:Ctx}{Q:Exit→St→Prop}{S S':St}{ops:Array Oper}{o:Oper}{rest:List Oper}
theorem ic {κ:Nat→Nat→Option Value}{sv:Nat→Value}{a:Act}{w:World} (hs:bk X κ sv S a w):∀ xs:List Operand,aD κ S.γ sv (xs.map (S.ev X)) (xs.map a.eval)
 |[]=>.nil
 |x::xs=>.cons _ _ _ _ (hs.ev x) (ic hs xs)
def ma:D→Option Value
 |.int k n=>some (.int k n)
 |.bool b=>some (.bool b)
 |.str s=>some (.string s)
 |_=>none
def ll:List D→Option (List Value)
 |[]=>some []
 |d::l=>match ma d,ll l with|some v,some vs=>some (v::vs)|_,_=>none
def mc:D→Option Value
 |.agg l=>(ll l).map fun vs=>.agg vs.toArray
 |d=>ma d
def j8:List D→Option (List Value)
 |[]=>some []
 |d::l=>match mc d,j8 l with|some v,some vs=>some (v::vs)|_,_=>none
def sy:D→Option Value
 |.bn l=>(j8 l).map fun vs=>.tuple vs.toArray
 |d=>mc d
section
variable {κ aA:Nat→Nat→Option Value}{γ cU:Nat→Nat}{sv aQ:Nat→Value}
theorem IX {d:D}{v0:Value} (h:ma d=some v0):aW κ γ sv d v0:=by
 cases d<;>simp[ma]at h<;>subst h
 ·exact .int _ _
 ·exact .bool _
 ·exact .str _
theorem Oq {d:D}{v v0:Value} (h:ma d=some v0) (hr:aW κ γ sv d v):v=v0:=by
 cases d<;>simp[ma]at h<;>subst h<;>cases hr<;>rfl
theorem xY:∀ {l:List D}{vs v0:List Value},ll l=some v0→aD κ γ sv l vs→vs=v0
 |[],vs,v0,h,hr=>by simp[ll]at h;subst h;cases hr;rfl
 |d::l,_,v0,h,.cons _ v _ vs h1 h2=>by
  unfold ll at h
  cases e1:ma d with
  |none=>rw[e1]at h;cases h
  |some u =>
   cases e2:ll l with
   |none=>rw[e1,e2]at h;cases h
   |some us=>rw[e1,e2]at h;simp at h;subst h;rw[Oq e1 h1,xY e2 h2]
theorem vc:∀ {l:List D}{v0:List Value},ll l=some v0→aD κ γ sv l v0
 |[],v0,h=>by simp[ll]at h;subst h;exact .nil
 |d::l,v0,h=>by
  unfold ll at h
  cases e1:ma d with
  |none=>rw[e1]at h;cases h
  |some u =>
   cases e2:ll l with
   |none=>rw[e1,e2]at h;cases h
   |some us=>rw[e1,e2]at h;simp at h;subst h;exact .cons _ _ _ _ (IX e1) (vc e2)
theorem DM {d:D}{v v0:Value} (h:mc d=some v0) (hr:aW κ γ sv d v):v=v0:=by
 unfold mc at h
 split at h
 ·rename_i l
  simp only[Option.map_eq_some_iff]at h
  obtain ⟨vs,h1,rfl⟩:=h
  cases hr with
  |agg _ us hu=>rw[xY h1 hu]
 ·exact Oq h hr
theorem AQ {d:D}{v0:Value} (h:mc d=some v0):aW κ γ sv d v0:=by
 unfold mc at h
 split at h
 ·rename_i l
  simp only[Option.map_eq_some_iff]at h
  obtain ⟨vs,h1,rfl⟩:=h
  exact .agg _ _ (vc h1)
 ·exact IX h
theorem IY:∀ {l:List D}{vs v0:List Value},j8 l=some v0→aD κ γ sv l vs→vs=v0
 |[],vs,v0,h,hr=>by simp[j8]at h;subst h;cases hr;rfl
 |d::l,_,v0,h,.cons _ v _ vs h1 h2=>by
  unfold j8 at h
  cases e1:mc d with
  |none=>rw[e1]at h;cases h
  |some u =>
   cases e2:j8 l with
   |none=>rw[e1,e2]at h;cases h
   |some us=>rw[e1,e2]at h;simp at h;subst h;rw[DM e1 h1,IY e2 h2]
theorem F8:∀ {l:List D}{v0:List Value},j8 l=some v0→aD κ γ sv l v0
 |[],v0,h=>by simp[j8]at h;subst h;exact .nil
 |d::l,v0,h=>by
  unfold j8 at h
  cases e1:mc d with
  |none=>rw[e1]at h;cases h
  |some u =>
   cases e2:j8 l with
   |none=>rw[e1,e2]at h;cases h
   |some us=>rw[e1,e2]at h;simp at h;subst h;exact .cons _ _ _ _ (AQ e1) (F8 e2)
theorem ag2 {d:D}{v v0:Value} (h:sy d=some v0) (hr:aW κ γ sv d v):v=v0:=by
 unfold sy at h
 split at h
 ·rename_i l
  simp only[Option.map_eq_some_iff]at h
  obtain ⟨vs,h1,rfl⟩:=h
  cases hr with
  |bn _ us hu=>rw[IY h1 hu]
 ·exact DM h hr
theorem ab9 {d:D}{v0:Value} (h:sy d=some v0):aW κ γ sv d v0:=by
 unfold sy at h
 split at h
 ·rename_i l
  simp only[Option.map_eq_some_iff]at h
  obtain ⟨vs,h1,rfl⟩:=h
  exact .bn _ _ (F8 h1)
 ·exact AQ h
end
mutual
inductive Fz (S:St):D→D→Prop
 |same (d:D):Fz S d d
 |os (s g E z n:Nat) (f:Nat→List D):S.γ s=g→S.σ s=.arr E z n f→Fz S (.os s g) (.sl z n f)
 |agg (l l':List D):s7 S l l'→Fz S (.agg l) (.agg l')
 |bx (s g o:Nat) (l:List D):S.γ s=g→S.σ s=.box l→Fz S (.bx s g o) (.rp l o)
 |fn (f:FuncId) (c c':List D):s7 S c c'→Fz S (.fn f c) (.fn f c')
inductive s7 (S:St):List D→List D→Prop
 |nil:s7 S [] []
 |cons (d d':D) (l l':List D):Fz S d d'→s7 S l l'→s7 S (d::l) (d'::l')
end
mutual
theorem Fz.rep {κ aA:Nat→Nat→Option Value}{sv:Nat→Value}{w:World} (h:cE X κ sv S w) (hle:Le κ aA S.γ S.γ sv sv) (bQ:∀ b o v,w.cell? ⟨b,o,none⟩=some v→aA b o=some v):∀ {d d':D}{v:Value},Fz S d d'→aW κ S.γ sv d v→aW aA S.γ sv d' v
 |_,_,_,.same _,hr=>hr.mono hle
 |_,_,_,.os s g E z n f hg aF,hr=>by
  cases hr with
  |os _ _ _ _ hh _=>rw[hh hg.symm];exact sL h aF hle (fun b o v _ hc=>bQ b o v hc)
 |_,_,_,.agg l l' hl,hr=>by
  cases hr with
  |agg _ vs hv=>exact .agg _ _ (s7.rep h hle bQ hl hv)
 |_,_,_,.bx s g o l hg aF,hr=>by
  have aP:=h.own s
  rw[aF]at aP
  obtain ⟨b,T,cs,e1,e2,e3,e4⟩:=aP
  cases hr with
  |bx _ _ _ _ _ hh _ =>
   obtain ⟨b',h5,h6⟩:=hh hg.symm
   rw[e1]at h5
   simp only[Value.pointer.injEq,Option.some.injEq,Addr.mk.injEq,and_true]at h5
   subst h5
   rw[h6]
   have:=aW.rp (κ:=aA) (γ:=S.γ) (sv:=sv) l o b 0 cs e4.1 (e3.mono hle) (fun j v hj=>bQ _ _ _ (by rw[cell_of_row w b _ _ _ _ e2,Nat.zero_add];simpa using hj))
   simpa using this
 |_,_,_,.fn f c c' hl,hr=>by
  cases hr with
  |fn _ _ vs hv=>exact .fn _ _ _ (s7.rep h hle bQ hl hv)
theorem s7.rep {κ aA:Nat→Nat→Option Value}{sv:Nat→Value}{w:World} (h:cE X κ sv S w) (hle:Le κ aA S.γ S.γ sv sv) (bQ:∀ b o v,w.cell? ⟨b,o,none⟩=some v→aA b o=some v):∀ {l l':List D}{vs:List Value},s7 S l l'→aD κ S.γ sv l vs→aD aA S.γ sv l' vs
 |_,_,_,.nil,hr=>by cases hr;exact .nil
 |_,_,_,.cons d d' l l' h1 h2,hr=>by
  cases hr with
  |cons _ _ _ _ r1 r2=>exact .cons _ _ _ _ (Fz.rep h hle bQ h1 r1) (s7.rep h hle bQ h2 r2)
end
def ZW (X:Ctx) (S:St):ResultVar→D→Prop
 |.tmp t,d=>S.ev X (.tmp t)=d
 |.cell p T,d=>∃ s g j l r,S.ev X (.tmp p)=.bx s g j∧S.γ s=g∧S.σ s=.box l∧nth X.Z.bL T=some r∧Nat.beq r.k 9=false ∧
  (((Nat.beq r.k 1 || Nat.beq r.k 2)=true∧∃ m,takeN r.sz (k6 j l)=some m∧d=.agg m)∨((Nat.beq r.k 1 || Nat.beq r.k 2)=false∧nth l j=some d))
def gZ (X:Ctx) (S:St):List ResultVar→List D→Prop
 |[],[]=>True
 |r::rs,d::ds=>ZW X S r d∧gZ X S rs ds
 |_,_=>False
def fR:List D→D
 |[d]=>d
 |ds=>.bn ds
def F3 (a:Act):ResultVar→Sem Value
 |.tmp t=>pure (a.tmps.getD t Go.undef)
 |.cell p T=>do loadVar T (← asAddr (a.tmps.getD p Go.undef))
theorem ab2 {κ:Nat→Nat→Option Value}{sv:Nat→Value}{a:Act}{w:World} (hs:bk X κ sv S a w) {rv:ResultVar}{d:D} (h:ZW X S rv d) :
  ∃ v,(F3 a rv).run X.Z.P w=.ok v w∧aW κ S.γ sv d v:=by
 cases rv with
 |tmp t=>exact⟨_,rfl,h ▸ hs.ev (.tmp t)⟩
 |cell p T =>
  obtain ⟨s,g,j,l,r,hx,hg,aF,hr,h9,anh⟩:=h
  have cj:=X.Z.bG _ _ hr (by intro e;rw[e]at h9;cases h9)
  obtain ⟨b,Tb,cs,he,gy,hh,cq,oa⟩:=mF hs hx hg aF
  have he':a.tmps.getD p Go.undef=.pointer (some ⟨b,j,none⟩):=he
  rcases anh with ⟨hk,m,hm,rfl⟩|⟨hk,hd⟩
  ·obtain ⟨rfl,hl⟩:=oS hm
   rw[oy]at hl ⊢
   have we:=(cq.drop j).take r.sz
   have hlen:((cs.drop j).take r.sz).length=r.sz:=by rw[we.length];simp at hl ⊢;omega
   have ou:∀ i v,((cs.drop j).take r.sz)[i]?=some v→w.cell? ⟨b,j+i,none⟩=some v:=by
    intro i v hi
    rw[cell_of_row w b _ _ _ _ hh]
    rw[List.getElem?_take]at hi
    split at hi
    ·simpa using hi
    ·cases hi
   refine ⟨_,?_,.agg _ _ we⟩
   simp[F3,he',asAddr,l9 cj hk hlen ou]
  ·rw[eU]at hd
   obtain ⟨vj,hv,wb⟩:=cq.get hd
   have hc:w.cell? ⟨b,j,none⟩=some vj:=by rw[cell_of_row w b j _ _ _ hh];simpa using hv
   exact⟨vj,by simp[F3,he',asAddr,lj cj hk hc],wb⟩
theorem Oh {κ:Nat→Nat→Option Value}{sv:Nat→Value}{a:Act}{w:World} (hs:bk X κ sv S a w):∀ {rs:List ResultVar}{ds:List D},gZ X S rs ds →
  ∃ vs,(rs.mapM (F3 a)).run X.Z.P w=.ok vs w∧aD κ S.γ sv ds vs
 |[],[],_=>⟨[],by simp,.nil⟩
 |[],_::_,h=>h.elim
 |_::_,[],h=>h.elim
 |r::rs,d::ds,h=>by
  obtain ⟨v,h1,h2⟩:=ab2 hs h.1
  obtain ⟨vs,h3,h4⟩:=Oh hs h.2
  refine ⟨v::vs,?_,.cons _ _ _ _ h2 h4⟩
  simp only[List.mapM_cons,Sem.run_bind,h1,Result.andThen_ok,h3,Sem.run_pure]
theorem Pq {κ:Nat→Nat→Option Value}{sv:Nat→Value}{a:Act}{w:World} (hs:bk X κ sv S a w) {fn:Func}{ds:List D} (h:gZ X S fn.results.toList ds) :
  ∃ v,(results fn a.tmps).run X.Z.P w=.ok v w∧aW κ S.γ sv (fR ds) v:=by
 obtain ⟨vs,h1,h2⟩:=Oh hs h
 have hlen:=h2.length
 have h3:(results fn a.tmps).run X.Z.P w=.ok (if h:vs.toArray.size=1 then vs.toArray[0] else .tuple vs.toArray) w:=by
  have h4:results fn a.tmps=(do let vs ← fn.results.mapM (F3 a);pure (if h:vs.size=1 then vs[0] else .tuple vs)):=by
   unfold results
   congr 1
  rw[h4,Array.mapM_eq_mapM_toList]
  simp only[Sem.run_bind,Sem.run_map,h1,Result.andThen_ok,Sem.run_pure]
 rw[h3]
 match ds,vs,h2,hlen with
 |[],[],h2,_=>exact⟨_,rfl,by simpa[fR] using aW.bn _ _ h2⟩
 |[d],[v],h2,_=>exact⟨v,rfl,by cases h2 with|cons _ _ _ _ h _=>exact h⟩
 |d::d2::ds,v::v2::vs,h2,_ =>
  refine ⟨.tuple (v::v2::vs).toArray,?_,aW.bn _ _ h2⟩
  rw[dif_neg (by simp)]
end
def St.init (A:List D):St:=⟨fun i=>match nth A i with|some d=>d|none=>.undef,fun _=>0,fun _=>.none⟩
def St.pU (l A:List D):St:=⟨fun i=>match nth (.bx 0 1 0::A) i with|some d=>d|none=>.undef,aG (fun _=>0) 0 1,aG (fun _=>.none) 0 (.box l)⟩
theorem jq {κ:Nat→Nat→Option Value}{γ:Nat→Nat}{sv:Nat→Value}{A:List D}{args:List Value} (h:aD κ γ sv A args) (n i:Nat) :
  aW κ γ sv (match nth A i with|some d=>d|none=>.undef) ((args.toArray++Array.replicate n Go.undef).getD i Go.undef):=by
 rw[eU]
 cases hA:A[i]? with
 |none=>exact .undef _
 |some d =>
  obtain ⟨v,hv,hr⟩:=h.get hA
  have cz:i<args.length:=(List.getElem?_eq_some_iff.1 hv).1
  have:(args.toArray++Array.replicate n Go.undef).getD i Go.undef=v:=by
   rw[Array.getD_eq_getD_getElem?,Array.getElem?_append_left (by simpa using cz)]
   simp[hv]
  rw[this];exact hr
theorem zE {X:Ctx}{S:St}{κ:Nat→Nat→Option Value}{sv:Nat→Value}{w':World} (h:cE X κ sv S w'):∀ b o v,κ b o=some v→fp X.fg X.w0 w' b o=some v:=fun b o v hk=>by
 simp only[fp]
 split
 ·exact h.nf b o v (by assumption) hk
 ·exact h.gU b o v hk
theorem cE.ri {X:Ctx}{κ:Nat→Nat→Option Value}{sv:Nat→Value}{S:St}{w w':World}{D:Nat} (h:cE X κ sv S w) (hX:∀ M w w' D,X.Φ M w→w.grownBy w' (some D)→X.w0.heap.size≤D→X.Φ M w') (hg:w.grownBy w' (some D)) (hD:X.w0.heap.size≤D) (hn:∃ o:Obj,w.heap[D]?=some o∧ov o=false):cE X κ sv S w':=by
 obtain ⟨o0,XS,Ip⟩:=hn
 have cx:∀ s b,aL (S.σ s) (sv s)=some b→w'.heap[b]?=w.heap[b]?:=fun s b hb=>hg.block b (cP (h.own s) hb) (fun e=>by
  obtain ⟨o,h1,h2⟩:=qf (h.own s) hb
  simp only[Option.some.injEq]at e
  subst e
  rw[XS]at h1;cases h1;rw[Ip]at h2;cases h2)
 refine ⟨fun b o v hk=>?_,fun s=>dZ (Le.refl _ _ _) rfl (cx s) (h.own s),h.inj,h.sep,h.oI,?_,h.nU,h.nf,h.ba,Nat.le_trans h.base hg.size,h.le,h.aw1,h.aw2,fun b hb=>Nat.lt_of_lt_of_le (h.PG b hb) hg.size,h.gz0⟩
 ·exact cell_kept (h.gU b o v hk) hg (fun r e=>by cases e;exact⟨o0,XS,M8 Ip⟩)
 ·obtain ⟨M,h1,h2⟩:=h.frame
  exact⟨M,hX M w w' D h1 hg hD,h2⟩
theorem kc {w0:World}{ext:Option Nat}:∀ M w w' D,j5 w0 ext M w→w.grownBy w' (some D)→w0.heap.size≤D→j5 w0 ext M w':=fun M w w' D h1 hg hD =>
 ⟨⟨hg.os.trans h1.1.os,hg.tape.trans h1.1.tape,hg.output.trans h1.1.output,Nat.le_trans h1.1.size hg.size,fun k hk he =>
  (hg.block k (Nat.lt_of_lt_of_le hk h1.1.size) (fun e=>by simp only[Option.some.injEq]at e;omega)).trans (h1.1.block k hk he)⟩,h1.2⟩
theorem j3 {X:Ctx}{κ:Nat→Nat→Option Value}{sv:Nat→Value}{S:St}{fn:Func}{ds:List D}{R:Ending→World→Prop} (hN:X.nd=false) (hX:∀ M w w' D,X.Φ M w→w.grownBy w' (some D)→X.w0.heap.size≤D→X.Φ M w') (nV:gZ X S fn.results.toList ds)
  (hR:∀ a w v,bk X κ sv S a w→aW κ S.γ sv (fR ds) v→R (.returned v) w):∀ (Ds:List Nat) (a:Act) (w:World),bk X κ sv S a w→a.defers=Ds.map mark→Ds.Nodup →
   (∀ D∈Ds,X.w0.heap.size≤D∧w.heap[D]?=some (.deferred (some [])))→LeavesInM Fence.wide 0 X.Z.P fn a.tmps R (Ds.map mark) .returning w
 |[],a,w,hs,_,_,_=>by
  obtain ⟨v,h1,h2⟩:=Pq hs nV
  exact⟨v,h1,hR a w v hs h2⟩
 |D::Ds,a,w,hs,hd,tF,mR=>by
  obtain ⟨hb,hD⟩:=mR D (List.mem_cons_self ..)
  refine ⟨by simp,.inl ⟨D,w.putObj D (.deferred none),rfl,run_takeDeferred hD,?_⟩⟩
  have adp:∀ D'∈Ds,X.w0.heap.size≤D'∧(w.putObj D (.deferred none)).heap[D']?=some (.deferred (some [])):=fun D' hm=>by
   obtain ⟨h1,h2⟩:=mR D' (List.mem_cons_of_mem _ hm)
   refine ⟨h1,(World.putObj_heap_other ?_).trans h2⟩
   intro e;subst e;exact(List.nodup_cons.1 tF).1 hm
  have hW:=hs.aJ.ri hX (grownBy_putObj' w D (.deferred none)) hb ⟨_,hD,rfl⟩
  exact j3 hN hX nV hR Ds { a with defers:=Ds.map mark } _ ⟨hs.size,⟨Ds,rfl,(List.nodup_cons.1 tF).2,adp,fun h=>by rw[hN]at h;cases h⟩,hs.slot,hW⟩ rfl (List.nodup_cons.1 tF).2 adp
section
variable {X:Ctx}{S:St}{rs:List ResultVar}
end
end Go.Ab
namespace Go.Proofs.YtbhjjkekphpldaaGreatDoor
open Go Go.Ab
set_option maxRecDepth 100000
abbrev N:dM:=⟨9,0,0,[],0,0,[]⟩
def bL:List dM:=[
N,
⟨0,1,8,[],0,0,[.o]⟩,
⟨0,1,8,[],0,0,[.i .i64]⟩,
⟨0,1,8,[],0,0,[.i .i64]⟩,
⟨0,1,1,[],0,0,[.b]⟩,
⟨0,1,1,[],0,0,[.i .u8]⟩,
⟨0,1,1,[],0,0,[.i .u8]⟩,
⟨1,4,24,[(0,1,false),(1,1,false),(2,1,false),(3,1,false)],0,0,[.i .i64,.i .i64,.b,.i .u8]⟩,
⟨1,4,24,[(0,1,false),(1,1,false),(2,1,false),(3,1,false)],0,0,[.i .i64,.i .i64,.b,.i .u8]⟩,
⟨0,1,16,[],0,0,[.s]⟩,
⟨0,1,16,[],0,0,[.s]⟩,
⟨0,1,16,[],0,0,[.s]⟩,
⟨0,1,8,[],0,0,[.i .u64]⟩,
⟨1,2,24,[(0,1,false),(1,1,false)],0,0,[.s,.i .u64]⟩,
⟨1,2,24,[(0,1,false),(1,1,false)],0,0,[.s,.i .u64]⟩,
⟨0,1,8,[],0,0,[.np]⟩,
⟨0,1,8,[],0,0,[.np]⟩,
⟨0,1,8,[],0,0,[.np]⟩,
⟨1,1,8,[(0,1,false)],0,0,[.np]⟩,
⟨1,1,8,[(0,1,false)],0,0,[.np]⟩,
⟨0,1,16,[],0,0,[.ni]⟩,
⟨0,1,4,[],0,0,[.i .i32]⟩,
⟨3,1,24,[],82,0,[.sl]⟩,
⟨2,3,24,[],3,3,[.i .i64,.i .i64,.i .i64]⟩,
⟨1,4,48,[(0,1,false),(1,3,true)],0,0,[.sl,.i .i64,.i .i64,.i .i64]⟩,
⟨1,4,48,[(0,1,false),(1,3,true)],0,0,[.sl,.i .i64,.i .i64,.i .i64]⟩,
⟨1,2,16,[(0,1,false),(1,1,false)],0,0,[.i .i64,.i .i64]⟩,
⟨1,2,16,[(0,1,false),(1,1,false)],0,0,[.i .i64,.i .i64]⟩,
⟨3,1,24,[],111,0,[.sl]⟩,
⟨1,11,120,[(0,2,true),(2,1,false),(3,1,false),(4,1,false),(5,1,false),(6,1,false),(7,1,false),(8,1,false),(9,1,false),(10,1,false)],0,0,[.i .i64,.i .i64,.sl,.sl,.i .i64,.i .i64,.i .i64,.i .i64,.i .i64,.i .i64,.i .i64]⟩,
⟨1,11,120,[(0,2,true),(2,1,false),(3,1,false),(4,1,false),(5,1,false),(6,1,false),(7,1,false),(8,1,false),(9,1,false),(10,1,false)],0,0,[.i .i64,.i .i64,.sl,.sl,.i .i64,.i .i64,.i .i64,.i .i64,.i .i64,.i .i64,.i .i64]⟩,
⟨3,1,24,[],58,0,[.sl]⟩,
⟨3,1,24,[],125,0,[.sl]⟩,
⟨1,2,48,[(0,1,false),(1,1,false)],0,0,[.sl,.sl]⟩,
⟨1,2,48,[(0,1,false),(1,1,false)],0,0,[.sl,.sl]⟩,
⟨3,1,24,[],119,0,[.sl]⟩,
⟨3,1,24,[],113,0,[.sl]⟩,
⟨3,1,24,[],27,0,[.sl]⟩,
⟨3,1,24,[],60,0,[.sl]⟩,
⟨1,5,104,[(0,1,false),(1,1,false),(2,1,false),(3,1,false),(4,1,false)],0,0,[.i .i64,.sl,.sl,.sl,.sl]⟩,
⟨1,5,104,[(0,1,false),(1,1,false),(2,1,false),(3,1,false),(4,1,false)],0,0,[.i .i64,.sl,.sl,.sl,.sl]⟩,
⟨1,4,32,[(0,1,false),(1,1,false),(2,1,false),(3,1,false)],0,0,[.i .i64,.i .i64,.i .i64,.i .i64]⟩,
⟨1,4,32,[(0,1,false),(1,1,false),(2,1,false),(3,1,false)],0,0,[.i .i64,.i .i64,.i .i64,.i .i64]⟩,
⟨3,1,24,[],63,0,[.sl]⟩,
⟨1,2,16,[(0,1,false),(1,1,false)],0,0,[.i .i64,.i .i64]⟩,
⟨1,2,16,[(0,1,false),(1,1,false)],0,0,[.i .i64,.i .i64]⟩,
⟨1,2,16,[(0,1,false),(1,1,false)],0,0,[.i .i64,.i .i64]⟩,
⟨1,2,16,[(0,1,false),(1,1,false)],0,0,[.i .i64,.i .i64]⟩,
⟨1,35,440,[(0,4,true),(4,11,true),(15,1,false),(16,1,false),(17,2,true),(19,2,true),(21,5,true),(26,4,true),(30,1,false),(31,2,true),(33,2,true)],0,0,[.sl,.i .i64,.i .i64,.i .i64,.i .i64,.i .i64,.sl,.sl,.i .i64,.i .i64,.i .i64,.i .i64,.i .i64,.i .i64,.i .i64,.i .i64,.i .i64,.i .i64,.i .i64,.sl,.sl,.i .i64,.sl,.sl,.sl,.sl,.i .i64,.i .i64,.i .i64,.i .i64,.sl,.i .i64,.i .i64,.i .i64,.i .i64]⟩,
⟨1,35,440,[(0,4,true),(4,11,true),(15,1,false),(16,1,false),(17,2,true),(19,2,true),(21,5,true),(26,4,true),(30,1,false),(31,2,true),(33,2,true)],0,0,[.sl,.i .i64,.i .i64,.i .i64,.i .i64,.i .i64,.sl,.sl,.i .i64,.i .i64,.i .i64,.i .i64,.i .i64,.i .i64,.i .i64,.i .i64,.i .i64,.i .i64,.i .i64,.sl,.sl,.i .i64,.sl,.sl,.sl,.sl,.i .i64,.i .i64,.i .i64,.i .i64,.sl,.i .i64,.i .i64,.i .i64,.i .i64]⟩,
⟨3,1,24,[],3,0,[.sl]⟩,
⟨0,1,8,[],0,0,[.o]⟩,
⟨0,1,8,[],0,0,[.o]⟩,
⟨0,1,8,[],0,0,[.np]⟩,
⟨0,1,8,[],0,0,[.o]⟩,
⟨0,1,8,[],0,0,[.o]⟩,
⟨0,1,8,[],0,0,[.o]⟩,
⟨1,6,56,[(0,1,false),(1,1,false),(2,2,true),(4,2,true)],0,0,[.s,.i .i64,.i .i64,.i .i64,.i .i64,.i .i64]⟩,
⟨1,6,56,[(0,1,false),(1,1,false),(2,2,true),(4,2,true)],0,0,[.s,.i .i64,.i .i64,.i .i64,.i .i64,.i .i64]⟩,
⟨1,3,24,[(0,1,false),(1,2,true)],0,0,[.i .i64,.i .i64,.i .i64]⟩,
⟨1,3,24,[(0,1,false),(1,2,true)],0,0,[.i .i64,.i .i64,.i .i64]⟩,
⟨3,1,24,[],161,0,[.sl]⟩,
⟨1,3,48,[(0,1,false),(1,1,false),(2,1,false)],0,0,[.s,.i .i64,.sl]⟩,
⟨1,3,48,[(0,1,false),(1,1,false),(2,1,false)],0,0,[.s,.i .i64,.sl]⟩,
⟨0,1,8,[],0,0,[.i .i64]⟩,
⟨0,1,8,[],0,0,[.o]⟩,
⟨0,1,8,[],0,0,[.o]⟩,
⟨0,1,8,[],0,0,[.o]⟩,
⟨0,1,8,[],0,0,[.o]⟩,
⟨0,1,8,[],0,0,[.o]⟩,
⟨0,1,8,[],0,0,[.o]⟩,
⟨0,1,8,[],0,0,[.o]⟩,
⟨0,1,8,[],0,0,[.i .u64]⟩,
⟨1,1,8,[(0,1,false)],0,0,[.i .u64]⟩,
⟨1,1,8,[(0,1,false)],0,0,[.i .u64]⟩,
⟨0,1,8,[],0,0,[.o]⟩,
⟨0,1,8,[],0,0,[.o]⟩,
⟨0,1,8,[],0,0,[.o]⟩,
⟨0,1,8,[],0,0,[.o]⟩,
⟨0,1,8,[],0,0,[.o]⟩,
⟨0,1,8,[],0,0,[.np]⟩,
⟨1,5,40,[(0,1,false),(1,1,false),(2,1,false),(3,1,false),(4,1,false)],0,0,[.i .i64,.i .i64,.i .i64,.i .i64,.i .i64]⟩,
⟨1,5,40,[(0,1,false),(1,1,false),(2,1,false),(3,1,false),(4,1,false)],0,0,[.i .i64,.i .i64,.i .i64,.i .i64,.i .i64]⟩,
⟨0,1,8,[],0,0,[.o]⟩,
⟨0,1,8,[],0,0,[.o]⟩,
⟨1,3,72,[(0,1,false),(1,1,false),(2,1,false)],0,0,[.sl,.sl,.sl]⟩,
⟨1,3,72,[(0,1,false),(1,1,false),(2,1,false)],0,0,[.sl,.sl,.sl]⟩,
N,
⟨0,1,8,[],0,0,[.o]⟩,
⟨3,1,24,[],9,0,[.sl]⟩,
⟨0,1,8,[],0,0,[.i .u64]⟩,
⟨0,1,8,[],0,0,[.o]⟩,
⟨0,1,8,[],0,0,[.o]⟩,
⟨0,1,8,[],0,0,[.o]⟩,
⟨3,1,24,[],100,0,[.sl]⟩,
⟨1,4,48,[(0,1,false),(1,1,false),(2,1,false),(3,1,false)],0,0,[.i .i64,.i .i64,.i .i64,.sl]⟩,
⟨1,4,48,[(0,1,false),(1,1,false),(2,1,false),(3,1,false)],0,0,[.i .i64,.i .i64,.i .i64,.sl]⟩,
⟨0,1,8,[],0,0,[.o]⟩,
⟨3,1,24,[],154,0,[.sl]⟩,
⟨1,5,56,[(0,1,false),(1,1,false),(2,2,true),(4,1,false)],0,0,[.i .i64,.i .i64,.i .i64,.i .i64,.sl]⟩,
⟨1,5,56,[(0,1,false),(1,1,false),(2,2,true),(4,1,false)],0,0,[.i .i64,.i .i64,.i .i64,.i .i64,.sl]⟩,
⟨0,1,8,[],0,0,[.o]⟩,
⟨0,1,8,[],0,0,[.o]⟩,
⟨0,1,8,[],0,0,[.o]⟩,
⟨0,1,8,[],0,0,[.o]⟩,
N,
⟨0,1,8,[],0,0,[.o]⟩,
⟨3,1,24,[],91,0,[.sl]⟩,
⟨0,1,8,[],0,0,[.o]⟩,
⟨0,1,8,[],0,0,[.o]⟩,
⟨1,2,16,[(0,1,false),(1,1,false)],0,0,[.i .i64,.i .i64]⟩,
⟨1,2,16,[(0,1,false),(1,1,false)],0,0,[.i .i64,.i .i64]⟩,
⟨1,7,72,[(0,1,false),(1,2,true),(3,1,false),(4,1,false),(5,1,false),(6,1,false)],0,0,[.i .i64,.i .i64,.i .i64,.i .i64,.i .i64,.i .i64,.sl]⟩,
⟨1,7,72,[(0,1,false),(1,2,true),(3,1,false),(4,1,false),(5,1,false),(6,1,false)],0,0,[.i .i64,.i .i64,.i .i64,.i .i64,.i .i64,.i .i64,.sl]⟩,
N,
⟨0,1,8,[],0,0,[.o]⟩,
⟨0,1,8,[],0,0,[.o]⟩,
⟨0,1,8,[],0,0,[.o]⟩,
⟨1,5,40,[(0,1,false),(1,1,false),(2,2,true),(4,1,false)],0,0,[.i .i64,.i .i64,.i .i64,.i .i64,.i .i64]⟩,
⟨1,5,40,[(0,1,false),(1,1,false),(2,2,true),(4,1,false)],0,0,[.i .i64,.i .i64,.i .i64,.i .i64,.i .i64]⟩,
⟨0,1,8,[],0,0,[.o]⟩,
⟨0,1,8,[],0,0,[.o]⟩,
⟨0,1,8,[],0,0,[.o]⟩,
⟨0,1,8,[],0,0,[.o]⟩,
⟨1,4,32,[(0,1,false),(1,1,false),(2,2,true)],0,0,[.i .i64,.i .i64,.i .i64,.i .i64]⟩,
⟨1,4,32,[(0,1,false),(1,1,false),(2,2,true)],0,0,[.i .i64,.i .i64,.i .i64,.i .i64]⟩,
⟨0,1,8,[],0,0,[.o]⟩,
⟨0,1,8,[],0,0,[.o]⟩,
⟨0,1,8,[],0,0,[.o]⟩,
⟨0,1,8,[],0,0,[.o]⟩,
⟨0,1,8,[],0,0,[.o]⟩,
⟨0,1,8,[],0,0,[.o]⟩,
⟨0,1,8,[],0,0,[.o]⟩,
⟨1,5,32,[(0,1,false),(1,1,false),(2,1,false),(3,1,false),(4,1,false)],0,0,[.o,.i .i64,.i .i64,.b,.b]⟩,
⟨1,5,32,[(0,1,false),(1,1,false),(2,1,false),(3,1,false),(4,1,false)],0,0,[.o,.i .i64,.i .i64,.b,.b]⟩,
⟨0,1,8,[],0,0,[.o]⟩,
⟨0,1,8,[],0,0,[.o]⟩,
⟨0,1,8,[],0,0,[.o]⟩,
⟨0,1,8,[],0,0,[.o]⟩,
⟨2,4,32,[],3,4,[.i .i64,.i .i64,.i .i64,.i .i64]⟩,
⟨0,1,8,[],0,0,[.o]⟩,
⟨0,1,8,[],0,0,[.o]⟩,
⟨0,1,8,[],0,0,[.o]⟩,
⟨0,1,8,[],0,0,[.o]⟩,
N,
⟨0,1,8,[],0,0,[.o]⟩,
⟨0,1,8,[],0,0,[.o]⟩,
⟨0,1,8,[],0,0,[.o]⟩,
⟨0,1,8,[],0,0,[.np]⟩,
N,
⟨0,1,8,[],0,0,[.o]⟩,
⟨1,6,64,[(0,5,true),(5,1,false)],0,0,[.i .i64,.i .i64,.i .i64,.i .i64,.sl,.i .i64]⟩,
⟨1,6,64,[(0,5,true),(5,1,false)],0,0,[.i .i64,.i .i64,.i .i64,.i .i64,.sl,.i .i64]⟩,
⟨1,2,16,[(0,1,false),(1,1,false)],0,0,[.i .i64,.i .i64]⟩,
⟨1,2,16,[(0,1,false),(1,1,false)],0,0,[.i .i64,.i .i64]⟩,
⟨0,1,8,[],0,0,[.o]⟩,
⟨0,1,8,[],0,0,[.o]⟩,
⟨2,4,32,[],27,2,[.i .i64,.i .i64,.i .i64,.i .i64]⟩,
⟨0,1,8,[],0,0,[.o]⟩,
⟨0,1,8,[],0,0,[.o]⟩,
⟨1,4,32,[(0,2,true),(2,2,true)],0,0,[.i .i64,.i .i64,.i .i64,.i .i64]⟩,
⟨1,4,32,[(0,2,true),(2,2,true)],0,0,[.i .i64,.i .i64,.i .i64,.i .i64]⟩,
⟨0,1,8,[],0,0,[.o]⟩,
⟨0,1,8,[],0,0,[.o]⟩,
⟨0,1,8,[],0,0,[.o]⟩,
⟨0,1,8,[],0,0,[.o]⟩,
⟨0,1,8,[],0,0,[.o]⟩,
⟨0,1,8,[],0,0,[.o]⟩,
⟨0,1,8,[],0,0,[.o]⟩,
⟨0,1,8,[],0,0,[.o]⟩,
⟨0,1,8,[],0,0,[.o]⟩,
⟨0,1,8,[],0,0,[.np]⟩,
⟨3,1,24,[],5,0,[.sl]⟩,
⟨1,2,32,[(0,1,false),(1,1,false)],0,0,[.np,.sl]⟩,
⟨1,2,32,[(0,1,false),(1,1,false)],0,0,[.np,.sl]⟩,
⟨0,1,8,[],0,0,[.o]⟩,
⟨0,1,8,[],0,0,[.o]⟩,
⟨0,1,8,[],0,0,[.o]⟩,
⟨0,1,8,[],0,0,[.o]⟩,
⟨0,1,8,[],0,0,[.o]⟩,
⟨0,1,16,[],0,0,[.ni]⟩,
⟨0,1,16,[],0,0,[.ni]⟩,
N,
⟨0,1,8,[],0,0,[.o]⟩,
⟨0,1,8,[],0,0,[.o]⟩,
⟨0,1,8,[],0,0,[.o]⟩,
N,
N,
N,
⟨0,1,8,[],0,0,[.o]⟩,
⟨0,1,8,[],0,0,[.o]⟩,
⟨0,1,8,[],0,0,[.np]⟩,
⟨0,1,8,[],0,0,[.o]⟩,
⟨0,1,8,[],0,0,[.o]⟩,
⟨0,1,8,[],0,0,[.o]⟩,
⟨0,1,8,[],0,0,[.o]⟩,
⟨0,1,8,[],0,0,[.o]⟩,
⟨3,1,24,[],252,0,[.sl]⟩,
⟨3,1,24,[],256,0,[.sl]⟩,
⟨3,1,24,[],261,0,[.sl]⟩,
⟨1,7,152,[(0,1,false),(1,1,false),(2,1,false),(3,1,false),(4,1,false),(5,2,true)],0,0,[.i .i64,.sl,.sl,.sl,.sl,.sl,.sl]⟩,
⟨1,7,152,[(0,1,false),(1,1,false),(2,1,false),(3,1,false),(4,1,false),(5,2,true)],0,0,[.i .i64,.sl,.sl,.sl,.sl,.sl,.sl]⟩,
⟨1,42,592,[(0,7,true),(7,35,true)],0,0,[.i .i64,.sl,.sl,.sl,.sl,.sl,.sl,.sl,.i .i64,.i .i64,.i .i64,.i .i64,.i .i64,.sl,.sl,.i .i64,.i .i64,.i .i64,.i .i64,.i .i64,.i .i64,.i .i64,.i .i64,.i .i64,.i .i64,.i .i64,.sl,.sl,.i .i64,.sl,.sl,.sl,.sl,.i .i64,.i .i64,.i .i64,.i .i64,.sl,.i .i64,.i .i64,.i .i64,.i .i64]⟩,
⟨1,42,592,[(0,7,true),(7,35,true)],0,0,[.i .i64,.sl,.sl,.sl,.sl,.sl,.sl,.sl,.i .i64,.i .i64,.i .i64,.i .i64,.i .i64,.sl,.sl,.i .i64,.i .i64,.i .i64,.i .i64,.i .i64,.i .i64,.i .i64,.i .i64,.i .i64,.i .i64,.i .i64,.sl,.sl,.i .i64,.sl,.sl,.sl,.sl,.i .i64,.i .i64,.i .i64,.i .i64,.sl,.i .i64,.i .i64,.i .i64,.i .i64]⟩,
⟨0,1,8,[],0,0,[.o]⟩,
⟨0,1,8,[],0,0,[.o]⟩,
⟨1,4,72,[(0,1,false),(1,1,false),(2,1,false),(3,1,false)],0,0,[.s,.s,.s,.sl]⟩,
⟨1,4,72,[(0,1,false),(1,1,false),(2,1,false),(3,1,false)],0,0,[.s,.s,.s,.sl]⟩,
⟨0,1,8,[],0,0,[.o]⟩,
⟨1,2,24,[(0,1,false),(1,1,false)],0,0,[.s,.o]⟩,
⟨1,2,24,[(0,1,false),(1,1,false)],0,0,[.s,.o]⟩,
N,
⟨0,1,8,[],0,0,[.o]⟩,
⟨0,1,8,[],0,0,[.np]⟩,
⟨0,1,8,[],0,0,[.o]⟩,
N,
⟨0,1,8,[],0,0,[.o]⟩,
⟨0,1,8,[],0,0,[.o]⟩,
⟨0,1,8,[],0,0,[.o]⟩,
⟨0,1,8,[],0,0,[.o]⟩,
⟨0,1,8,[],0,0,[.o]⟩,
N,
⟨0,1,8,[],0,0,[.o]⟩,
⟨0,1,8,[],0,0,[.o]⟩,
⟨0,1,8,[],0,0,[.o]⟩,
⟨0,1,8,[],0,0,[.o]⟩,
N,
⟨0,1,8,[],0,0,[.o]⟩,
⟨0,1,8,[],0,0,[.o]⟩,
⟨0,1,8,[],0,0,[.o]⟩,
N,
⟨0,1,8,[],0,0,[.o]⟩,
⟨0,1,8,[],0,0,[.o]⟩,
⟨0,1,8,[],0,0,[.np]⟩,
N,
⟨0,1,8,[],0,0,[.o]⟩,
⟨2,24,24,[],5,24,[.i .u8,.i .u8,.i .u8,.i .u8,.i .u8,.i .u8,.i .u8,.i .u8,.i .u8,.i .u8,.i .u8,.i .u8,.i .u8,.i .u8,.i .u8,.i .u8,.i .u8,.i .u8,.i .u8,.i .u8,.i .u8,.i .u8,.i .u8,.i .u8]⟩,
⟨0,1,8,[],0,0,[.o]⟩,
⟨0,1,8,[],0,0,[.o]⟩,
N,
⟨0,1,8,[],0,0,[.o]⟩,
N,
⟨1,2,2,[(0,1,false),(1,1,false)],0,0,[.i .u8,.i .u8]⟩,
⟨1,2,2,[(0,1,false),(1,1,false)],0,0,[.i .u8,.i .u8]⟩,
⟨2,32,32,[],243,16,[.i .u8,.i .u8,.i .u8,.i .u8,.i .u8,.i .u8,.i .u8,.i .u8,.i .u8,.i .u8,.i .u8,.i .u8,.i .u8,.i .u8,.i .u8,.i .u8,.i .u8,.i .u8,.i .u8,.i .u8,.i .u8,.i .u8,.i .u8,.i .u8,.i .u8,.i .u8,.i .u8,.i .u8,.i .u8,.i .u8,.i .u8,.i .u8]⟩,
⟨0,1,8,[],0,0,[.o]⟩,
⟨0,1,4,[],0,0,[.i .u32]⟩,
N,
⟨0,1,8,[],0,0,[.o]⟩,
⟨0,1,8,[],0,0,[.o]⟩,
⟨0,1,8,[],0,0,[.o]⟩,
⟨1,5,40,[(0,1,false),(1,1,false),(2,1,false),(3,2,true)],0,0,[.i .i64,.i .i64,.i .i64,.i .i64,.i .i64]⟩,
⟨1,5,40,[(0,1,false),(1,1,false),(2,1,false),(3,2,true)],0,0,[.i .i64,.i .i64,.i .i64,.i .i64,.i .i64]⟩,
⟨0,1,8,[],0,0,[.o]⟩,
⟨0,1,8,[],0,0,[.o]⟩,
⟨1,5,40,[(0,1,false),(1,1,false),(2,1,false),(3,1,false),(4,1,false)],0,0,[.i .i64,.i .i64,.i .i64,.i .i64,.i .i64]⟩,
⟨1,5,40,[(0,1,false),(1,1,false),(2,1,false),(3,1,false),(4,1,false)],0,0,[.i .i64,.i .i64,.i .i64,.i .i64,.i .i64]⟩,
⟨0,1,8,[],0,0,[.o]⟩,
⟨0,1,8,[],0,0,[.o]⟩,
⟨0,1,8,[],0,0,[.o]⟩,
⟨1,7,72,[(0,1,false),(1,1,false),(2,5,true)],0,0,[.i .i64,.i .i64,.i .i64,.i .i64,.i .i64,.i .i64,.sl]⟩,
⟨1,7,72,[(0,1,false),(1,1,false),(2,5,true)],0,0,[.i .i64,.i .i64,.i .i64,.i .i64,.i .i64,.i .i64,.sl]⟩,
⟨0,1,8,[],0,0,[.o]⟩,
⟨0,1,8,[],0,0,[.o]⟩,
⟨3,1,24,[],302,0,[.sl]⟩,
N,
⟨0,1,8,[],0,0,[.o]⟩,
⟨0,1,8,[],0,0,[.o]⟩,
N,
⟨0,1,8,[],0,0,[.o]⟩,
⟨0,1,8,[],0,0,[.o]⟩,
N,
⟨0,1,8,[],0,0,[.o]⟩,
⟨0,1,8,[],0,0,[.o]⟩,
⟨0,1,8,[],0,0,[.o]⟩,
N,
⟨0,1,8,[],0,0,[.o]⟩,
⟨0,1,8,[],0,0,[.o]⟩,
⟨0,1,8,[],0,0,[.o]⟩,
⟨0,1,8,[],0,0,[.np]⟩,
N,
⟨0,1,8,[],0,0,[.o]⟩,
⟨2,4,64,[],9,4,[.s,.s,.s,.s]⟩,
⟨0,1,8,[],0,0,[.o]⟩,
N,
⟨0,1,8,[],0,0,[.o]⟩,
⟨0,1,8,[],0,0,[.o]⟩,
⟨0,1,8,[],0,0,[.o]⟩,
⟨0,1,8,[],0,0,[.o]⟩,
⟨0,1,8,[],0,0,[.o]⟩,
⟨2,20,160,[],72,20,[.i .u64,.i .u64,.i .u64,.i .u64,.i .u64,.i .u64,.i .u64,.i .u64,.i .u64,.i .u64,.i .u64,.i .u64,.i .u64,.i .u64,.i .u64,.i .u64,.i .u64,.i .u64,.i .u64,.i .u64]⟩,
N,
⟨0,1,8,[],0,0,[.o]⟩,
⟨1,6,96,[(0,4,true),(4,1,false),(5,1,false)],0,0,[.sl,.i .i64,.i .i64,.i .i64,.sl,.sl]⟩,
⟨1,6,96,[(0,4,true),(4,1,false),(5,1,false)],0,0,[.sl,.i .i64,.i .i64,.i .i64,.sl,.sl]⟩,
N,
⟨0,1,8,[],0,0,[.o]⟩,
⟨0,1,8,[],0,0,[.o]⟩,
⟨0,1,8,[],0,0,[.o]⟩,
⟨0,1,8,[],0,0,[.o]⟩,
⟨0,1,8,[],0,0,[.o]⟩,
⟨1,3,24,[(0,1,false),(1,1,false),(2,1,false)],0,0,[.i .i64,.i .i64,.i .i64]⟩,
⟨1,3,24,[(0,1,false),(1,1,false),(2,1,false)],0,0,[.i .i64,.i .i64,.i .i64]⟩,
⟨0,1,8,[],0,0,[.o]⟩,
⟨0,1,8,[],0,0,[.o]⟩,
⟨0,1,8,[],0,0,[.o]⟩,
N,
⟨0,1,8,[],0,0,[.o]⟩,
⟨0,1,8,[],0,0,[.o]⟩,
⟨0,1,8,[],0,0,[.o]⟩,
⟨1,7,80,[(0,3,true),(3,4,true)],0,0,[.s,.i .i64,.sl,.i .i64,.i .i64,.i .i64,.i .i64]⟩,
⟨1,7,80,[(0,3,true),(3,4,true)],0,0,[.s,.i .i64,.sl,.i .i64,.i .i64,.i .i64,.i .i64]⟩,
⟨0,1,8,[],0,0,[.o]⟩,
⟨0,1,8,[],0,0,[.o]⟩,
⟨0,1,8,[],0,0,[.o]⟩,
⟨0,1,8,[],0,0,[.o]⟩,
⟨0,1,8,[],0,0,[.o]⟩,
⟨1,7,48,[(0,1,false),(1,1,false),(2,1,false),(3,1,false),(4,1,false),(5,1,false),(6,1,false)],0,0,[.i .i64,.i .i64,.i .i64,.b,.b,.i .i64,.i .i64]⟩,
⟨1,7,48,[(0,1,false),(1,1,false),(2,1,false),(3,1,false),(4,1,false),(5,1,false),(6,1,false)],0,0,[.i .i64,.i .i64,.i .i64,.b,.b,.i .i64,.i .i64]⟩,
N,
⟨0,1,8,[],0,0,[.o]⟩,
⟨1,2,16,[(0,1,false),(1,1,false)],0,0,[.i .i64,.i .i64]⟩,
⟨1,2,16,[(0,1,false),(1,1,false)],0,0,[.i .i64,.i .i64]⟩,
⟨3,1,24,[],330,0,[.sl]⟩,
⟨0,1,8,[],0,0,[.o]⟩,
⟨1,7,88,[(0,6,true),(6,1,false)],0,0,[.i .i64,.i .i64,.i .i64,.i .i64,.sl,.i .i64,.sl]⟩,
⟨1,7,88,[(0,6,true),(6,1,false)],0,0,[.i .i64,.i .i64,.i .i64,.i .i64,.sl,.i .i64,.sl]⟩,
⟨0,1,8,[],0,0,[.o]⟩,
⟨0,1,8,[],0,0,[.o]⟩,
⟨2,14,176,[],326,2,[.i .i64,.i .i64,.i .i64,.i .i64,.sl,.i .i64,.sl,.i .i64,.i .i64,.i .i64,.i .i64,.sl,.i .i64,.sl]⟩,
⟨2,14,176,[],326,2,[.i .i64,.i .i64,.i .i64,.i .i64,.sl,.i .i64,.sl,.i .i64,.i .i64,.i .i64,.i .i64,.sl,.i .i64,.sl]⟩,
⟨0,1,8,[],0,0,[.o]⟩,
⟨0,1,8,[],0,0,[.o]⟩,
⟨0,1,8,[],0,0,[.o]⟩,
⟨0,1,8,[],0,0,[.o]⟩,
⟨3,1,24,[],326,0,[.sl]⟩,
N,
⟨0,1,8,[],0,0,[.o]⟩,
⟨0,1,8,[],0,0,[.o]⟩,
⟨0,1,8,[],0,0,[.o]⟩,
N,
⟨0,1,8,[],0,0,[.o]⟩,
⟨3,1,24,[],37,0,[.sl]⟩,
⟨1,7,152,[(0,5,true),(5,1,false),(6,1,false)],0,0,[.i .i64,.sl,.sl,.sl,.sl,.sl,.sl]⟩,
⟨1,7,152,[(0,5,true),(5,1,false),(6,1,false)],0,0,[.i .i64,.sl,.sl,.sl,.sl,.sl,.sl]⟩,
N,
⟨0,1,8,[],0,0,[.o]⟩,
⟨0,1,8,[],0,0,[.o]⟩,
⟨0,1,8,[],0,0,[.o]⟩,
⟨0,1,8,[],0,0,[.o]⟩,
⟨0,1,8,[],0,0,[.o]⟩,
⟨0,1,8,[],0,0,[.o]⟩,
⟨0,1,8,[],0,0,[.o]⟩,
⟨0,1,8,[],0,0,[.o]⟩,
⟨3,1,24,[],4,0,[.sl]⟩,
⟨0,1,8,[],0,0,[.o]⟩,
⟨0,1,8,[],0,0,[.o]⟩,
⟨0,1,8,[],0,0,[.o]⟩,
N,
⟨0,1,8,[],0,0,[.o]⟩,
⟨0,1,8,[],0,0,[.o]⟩,
⟨0,1,8,[],0,0,[.o]⟩,
⟨1,1,1,[(0,1,false)],0,0,[.b]⟩,
⟨1,1,1,[(0,1,false)],0,0,[.b]⟩,
⟨1,14,176,[(0,1,true),(1,11,true),(12,1,false),(13,1,false)],0,0,[.b,.i .i64,.i .i64,.sl,.sl,.i .i64,.i .i64,.i .i64,.i .i64,.i .i64,.i .i64,.i .i64,.sl,.sl]⟩,
⟨1,14,176,[(0,1,true),(1,11,true),(12,1,false),(13,1,false)],0,0,[.b,.i .i64,.i .i64,.sl,.sl,.i .i64,.i .i64,.i .i64,.i .i64,.i .i64,.i .i64,.i .i64,.sl,.sl]⟩,
N,
⟨0,1,8,[],0,0,[.o]⟩,
⟨0,1,8,[],0,0,[.o]⟩,
⟨0,1,8,[],0,0,[.o]⟩,
⟨0,1,8,[],0,0,[.o]⟩,
⟨0,1,8,[],0,0,[.o]⟩,
⟨0,1,8,[],0,0,[.o]⟩,
⟨0,1,8,[],0,0,[.o]⟩,
⟨0,1,8,[],0,0,[.o]⟩,
⟨0,1,8,[],0,0,[.o]⟩,
N,
⟨0,1,8,[],0,0,[.o]⟩,
⟨0,1,8,[],0,0,[.o]⟩,
⟨0,1,8,[],0,0,[.i .i64]⟩,
N,
⟨0,1,8,[],0,0,[.o]⟩,
⟨0,1,8,[],0,0,[.np]⟩,
⟨0,1,8,[],0,0,[.o]⟩,
⟨0,1,8,[],0,0,[.o]⟩,
⟨2,32,32,[],5,32,[.i .u8,.i .u8,.i .u8,.i .u8,.i .u8,.i .u8,.i .u8,.i .u8,.i .u8,.i .u8,.i .u8,.i .u8,.i .u8,.i .u8,.i .u8,.i .u8,.i .u8,.i .u8,.i .u8,.i .u8,.i .u8,.i .u8,.i .u8,.i .u8,.i .u8,.i .u8,.i .u8,.i .u8,.i .u8,.i .u8,.i .u8,.i .u8]⟩,
⟨2,64,64,[],5,64,[.i .u8,.i .u8,.i .u8,.i .u8,.i .u8,.i .u8,.i .u8,.i .u8,.i .u8,.i .u8,.i .u8,.i .u8,.i .u8,.i .u8,.i .u8,.i .u8,.i .u8,.i .u8,.i .u8,.i .u8,.i .u8,.i .u8,.i .u8,.i .u8,.i .u8,.i .u8,.i .u8,.i .u8,.i .u8,.i .u8,.i .u8,.i .u8,.i .u8,.i .u8,.i .u8,.i .u8,.i .u8,.i .u8,.i .u8,.i .u8,.i .u8,.i .u8,.i .u8,.i .u8,.i .u8,.i .u8,.i .u8,.i .u8,.i .u8,.i .u8,.i .u8,.i .u8,.i .u8,.i .u8,.i .u8,.i .u8,.i .u8,.i .u8,.i .u8,.i .u8,.i .u8,.i .u8,.i .u8,.i .u8]⟩,
⟨0,1,8,[],0,0,[.o]⟩,
⟨0,1,8,[],0,0,[.o]⟩,
⟨0,1,8,[],0,0,[.o]⟩,
⟨0,1,8,[],0,0,[.o]⟩,
⟨0,1,8,[],0,0,[.o]⟩,
⟨0,1,8,[],0,0,[.o]⟩,
⟨0,1,8,[],0,0,[.o]⟩,
⟨0,1,8,[],0,0,[.o]⟩,
N,
⟨0,1,8,[],0,0,[.o]⟩,
⟨0,1,8,[],0,0,[.o]⟩,
⟨0,1,8,[],0,0,[.o]⟩,
⟨0,1,8,[],0,0,[.o]⟩,
⟨0,1,8,[],0,0,[.o]⟩,
⟨0,1,8,[],0,0,[.o]⟩,
N,
⟨0,1,8,[],0,0,[.o]⟩,
⟨2,2,16,[],3,2,[.i .i64,.i .i64]⟩,
⟨2,8,64,[],404,4,[.i .i64,.i .i64,.i .i64,.i .i64,.i .i64,.i .i64,.i .i64,.i .i64]⟩,
N,
⟨0,1,8,[],0,0,[.o]⟩,
⟨0,1,8,[],0,0,[.o]⟩,
⟨0,1,8,[],0,0,[.o]⟩,
⟨0,1,8,[],0,0,[.o]⟩,
⟨0,1,8,[],0,0,[.o]⟩,
⟨0,1,8,[],0,0,[.o]⟩,
⟨0,1,8,[],0,0,[.o]⟩,
⟨0,1,8,[],0,0,[.o]⟩,
N,
⟨0,1,8,[],0,0,[.o]⟩,
⟨0,1,8,[],0,0,[.o]⟩,
⟨1,3,48,[(0,1,false),(1,1,false),(2,1,false)],0,0,[.s,.s,.ni]⟩,
⟨1,3,48,[(0,1,false),(1,1,false),(2,1,false)],0,0,[.s,.s,.ni]⟩,
⟨0,1,8,[],0,0,[.o]⟩,
⟨0,1,8,[],0,0,[.o]⟩,
⟨0,1,8,[],0,0,[.o]⟩,
⟨0,1,8,[],0,0,[.o]⟩,
⟨0,1,8,[],0,0,[.o]⟩,
⟨0,1,8,[],0,0,[.o]⟩,
⟨0,1,8,[],0,0,[.o]⟩,
⟨0,1,8,[],0,0,[.o]⟩,
⟨0,1,8,[],0,0,[.o]⟩,
⟨0,1,8,[],0,0,[.o]⟩,
⟨2,2,16,[],428,2,[.o,.o]⟩,
⟨2,2,16,[],3,2,[.i .i64,.i .i64]⟩,
⟨0,1,8,[],0,0,[.o]⟩,
⟨0,1,8,[],0,0,[.o]⟩,
⟨0,1,8,[],0,0,[.o]⟩,
⟨0,1,8,[],0,0,[.np]⟩,
⟨1,1,16,[(0,1,false)],0,0,[.s]⟩,
⟨1,1,16,[(0,1,false)],0,0,[.s]⟩,
⟨0,1,8,[],0,0,[.o]⟩,
⟨0,1,8,[],0,0,[.o]⟩,
⟨2,4,32,[],404,2,[.i .i64,.i .i64,.i .i64,.i .i64]⟩,
⟨0,1,8,[],0,0,[.o]⟩,
⟨0,1,8,[],0,0,[.o]⟩,
⟨0,1,8,[],0,0,[.o]⟩,
⟨1,4,40,[(0,1,false),(1,1,false),(2,1,false),(3,1,false)],0,0,[.np,.np,.np,.s]⟩,
⟨1,4,40,[(0,1,false),(1,1,false),(2,1,false),(3,1,false)],0,0,[.np,.np,.np,.s]⟩,
⟨2,0,0,[],16,0,[]⟩,
⟨1,0,0,[(0,0,true)],0,0,[]⟩,
⟨1,0,0,[(0,0,true)],0,0,[]⟩,
⟨0,1,1,[],0,0,[.i .u8]⟩,
⟨0,1,1,[],0,0,[.i .u8]⟩,
⟨0,1,8,[],0,0,[.o]⟩,
⟨0,1,4,[],0,0,[.i .i32]⟩,
⟨0,1,4,[],0,0,[.i .i32]⟩,
⟨1,11,48,[(0,1,false),(1,1,false),(2,1,false),(3,1,false),(4,1,false),(5,1,false),(6,1,false),(7,1,false),(8,1,false),(9,1,false),(10,1,false)],0,0,[.i .u64,.i .u64,.i .u32,.i .u8,.i .u8,.i .u8,.i .u8,.o,.np,.i .i32,.i .i32]⟩,
⟨1,11,48,[(0,1,false),(1,1,false),(2,1,false),(3,1,false),(4,1,false),(5,1,false),(6,1,false),(7,1,false),(8,1,false),(9,1,false),(10,1,false)],0,0,[.i .u64,.i .u64,.i .u32,.i .u8,.i .u8,.i .u8,.i .u8,.o,.np,.i .i32,.i .i32]⟩
 ]
theorem ag4:(bL.zipIdx.all fun p=>Nat.beq p.1.k 9 || kt Tryz.prog p.2 p.1)=true:=by kernel_rfl
theorem amf (t:Nat) (r:dM) (h:nth bL t=some r) (h9:r.k≠9):kt Tryz.prog t r=true:=by
 rw[eU]at h
 have h1:(r,t)∈bL.zipIdx:=by
  rw[List.mem_zipIdx_iff_getElem?];exact h
 have h2:=List.all_eq_true.1 ag4 _ h1
 simp only[Bool.or_eq_true]at h2
 rcases h2 with h2|h2
 ·exact absurd (Nat.eq_of_beq_eq_true h2) h9
 ·exact h2
def Bu (g:Nat):Option (List D):=match g with
 |0=>some [.lk .ai]
 |3=>some [.str (⟨#[]⟩:ByteArray),.str (⟨#[115,117,114,101]⟩:ByteArray),.str (⟨#[110,101,118,101,114]⟩:ByteArray),.str (⟨#[111,112,101,110]⟩:ByteArray)]
 |4=>some [.int .u64 1,.int .u64 10,.int .u64 100,.int .u64 1000,.int .u64 10000,.int .u64 100000,.int .u64 1000000,.int .u64 10000000,.int .u64 100000000,.int .u64 1000000000,.int .u64 10000000000,.int .u64 100000000000,.int .u64 1000000000000,.int .u64 10000000000000,.int .u64 100000000000000,.int .u64 1000000000000000,.int .u64 10000000000000000,.int .u64 100000000000000000,.int .u64 1000000000000000000,.int .u64 10000000000000000000]
 |5=>some [.str (⟨#[]⟩:ByteArray),.str (⟨#[116,104,105,110]⟩:ByteArray),.str (⟨#[109,97,114,107]⟩:ByteArray),.str (⟨#[115,116,97,108,101]⟩:ByteArray)]
 |8=>some [.int .i64 0,.int .i64 0,.int .i64 1,.int .i64 0,.int .i64 0,.int .i64 1,.int .i64 1,.int .i64 1]
 |9=>some [.lk .nn]
 |10=>some [.lk .nn]
 |_=>none
theorem Uc (g:Nat) (l:List D) (h:Bu g=some l):ab l:=by
 unfold Bu at h
 split at h
 ·simp only[Option.some.injEq]at h;subst h
  repeat' first|exact ab.nil|refine ab.cons (.int _ _) ?_|refine ab.cons (.str _) ?_|refine ab.cons (.lk _) ?_
 ·simp only[Option.some.injEq]at h;subst h
  repeat' first|exact ab.nil|refine ab.cons (.int _ _) ?_|refine ab.cons (.str _) ?_|refine ab.cons (.lk _) ?_
 ·simp only[Option.some.injEq]at h;subst h
  repeat' first|exact ab.nil|refine ab.cons (.int _ _) ?_|refine ab.cons (.str _) ?_|refine ab.cons (.lk _) ?_
 ·simp only[Option.some.injEq]at h;subst h
  repeat' first|exact ab.nil|refine ab.cons (.int _ _) ?_|refine ab.cons (.str _) ?_|refine ab.cons (.lk _) ?_
 ·simp only[Option.some.injEq]at h;subst h
  repeat' first|exact ab.nil|refine ab.cons (.int _ _) ?_|refine ab.cons (.str _) ?_|refine ab.cons (.lk _) ?_
 ·simp only[Option.some.injEq]at h;subst h
  repeat' first|exact ab.nil|refine ab.cons (.int _ _) ?_|refine ab.cons (.str _) ?_|refine ab.cons (.lk _) ?_
 ·simp only[Option.some.injEq]at h;subst h
  repeat' first|exact ab.nil|refine ab.cons (.int _ _) ?_|refine ab.cons (.str _) ?_|refine ab.cons (.lk _) ?_
 ·cases h
def My (g:Nat):Option Nat:=match g with
 |4=>some 20
 |_=>none
theorem afV (g n:Nat) (h:My g=some n):∃ l,Bu g=some l∧l≠[]:=by
 unfold My at h
 split at h
 ·exact⟨_,rfl,by simp⟩
 ·cases h
noncomputable def Vn:Seat:={ P:=Tryz.prog,bL:=bL,nU:=Bu,bG:=amf,qQ:=Uc,mixed:=by kernel_rfl,zM:=My,Ue:=afV }
end Go.Proofs.YtbhjjkekphpldaaGreatDoor
namespace Go.Ab
open Go Go.RowKit
noncomputable def look {α:Type} (e:α) (l:List (Nat×α)):Nat→α:=@List.rec (Nat×α) (fun _=>Nat→α) (fun _=>e) (fun p _ ih j=>@Bool.rec (fun _=>α) (ih j) p.2 (Nat.beq j p.1)) l
theorem kE {α:Type} (e:α) (j:Nat):look e [] j=e:=rfl
theorem jL {α:Type} (e:α) (i:Nat) (a:α) (l:List (Nat×α)) (j:Nat):look e ((i,a)::l) j=bif Nat.beq j i then a else look e l j:=by
 show @Bool.rec (fun _=>α) (look e l j) a (Nat.beq j i)=_
 cases Nat.beq j i<;>rfl
theorem kF {α:Type} (e:α) (p:Nat×α) (l:List (Nat×α)) (j:Nat):look e (p::l) j=bif Nat.beq j p.1 then p.2 else look e l j:=jL e p.1 p.2 l j
def adN (h:Nat→Nat):List (Nat×Nat)→Nat→Nat
 |[],j=>h j
 |(i,a)::l,j=>bif Nat.beq j i then a else adN h l j
noncomputable def mk (rs:List (Nat×D)) (gs:List (Nat×Nat)) (os:List (Nat×Own)) (h:Nat→Nat):St:=⟨look .undef rs,adN h gs,look .none os⟩
def RX {α:Type} (f:Nat→α):List (Nat×α)→Prop
 |[]=>True
 |(i,a)::l=>f i=a∧RX f l
section
variable {X:Ctx}{Q:Exit→St→Prop}{S:St}
end
section
variable {X:Ctx}{Q:Exit→St→Prop}{S:St}{ops:Array Oper}{o:Oper}{rest:List Oper}{c:Operand}{x y:Code}{j t:Nat}{b:Bool}
end
def DP {α:Type} [Inhabited α] (z:Nat) (enc:α→List D) (l:List α):D:=.sl z l.length (fun i=>enc (l.getD i default))
def Da (n:Int):List D:=[.int .i64 n]
section
variable {X:Ctx}{Q:Exit→St→Prop}{S S':St}
def FnW (d d':D):Prop:=∃ g c c',d=.fn g c∧d'=.fn g c'∧∀ κ γ sv v,aW κ γ sv d v→aW κ γ sv d' v
def vk:List D→List D→Prop
 |[],[]=>True
 |d::l,d'::l'=>(d'=d∨(d=.nil∧∃ z f,d'=.sl z 0 f)∨FnW d d')∧vk l l'
 |_,_=>False
theorem iS {κ:Nat→Nat→Option Value}{γ:Nat→Nat}{sv:Nat→Value}:∀ {l l':List D}{vs:List Value},vk l l'→aD κ γ sv l vs→aD κ γ sv l' vs
 |[],[],_,_,h=>h
 |d::l,d'::l',_,h,.cons _ _ _ _ h1 h2=>by
  refine .cons _ _ _ _ ?_ (iS h.2 h2)
  rcases h.1 with e|⟨e,z,f,e'⟩|⟨_,_,_,_,_,e⟩
  ·rw[e];exact h1
  ·subst e e';cases h1;exact .lI _ _
  ·exact e _ _ _ _ h1
 |[],_::_,_,h,_=>h.elim
 |_::_,[],_,h,_=>h.elim
theorem uM:∀ {l l':List D},vk l l'→aY l=true→aY l'=true
 |[],[],_,_=>rfl
 |d::l,d'::l',h,hc=>by
  simp only[aY,Bool.and_eq_true]at hc ⊢
  refine ⟨?_,uM h.2 hc.2⟩
  rcases h.1 with e|⟨e,z,f,e'⟩|⟨_,_,_,_,e,_⟩
  ·rw[e];exact hc.1
  ·subst e';rfl
  ·subst e;rfl
 |[],_::_,h,_=>h.elim
 |_::_,[],h,_=>h.elim
end
end Go.Ab
namespace Go.Ab
open Go Go.RowKit
structure Lc where
 rr:List Nat
 rg:List Nat
 ro:List Nat
structure Wr where
 t:Option Nat
 g:Option Nat
 o:Option Nat
structure Vl where
 d:D
 g:Nat
 o:Own
instance:Inhabited Vl:=⟨⟨.undef,0,.none⟩⟩
def bc (i:Nat):List Nat→Bool
 |[]=>false
 |j::l=>bif Nat.beq i j then true else bc i l
theorem bw {i:Nat}:∀ {l:List Nat},bc i l=true↔i∈l
 |[]=>by simp[bc]
 |j::l=>by
  simp only[bc,List.mem_cons]
  cases h:Nat.beq i j with
  |true=>simp[Nat.eq_of_beq_eq_true h]
  |false =>
   have:i≠j:=fun e=>by rw[e,Nat.beq_refl]at h;cases h
   simp[this,bw]
def vL {α:Type} (f:Nat→α) (i:Option Nat) (v:α):Nat→α:=match i with|some i=>aG f i v|none=>f
def St.app (T:St) (w:Wr) (v:Vl):St:=⟨vL T.ρ w.t v.d,vL T.γ w.g v.g,vL T.σ w.o v.o⟩
structure rk (lc:Lc) (S T:St):Prop where
 rr:∀ t∈lc.rr,T.ρ t=S.ρ t
 rg:∀ s∈lc.rg,T.γ s=S.γ s
 ro:∀ s∈lc.ro,T.σ s=S.σ s
section val
variable {α:Type}
def val (w:Nat→Option Nat) (v:Nat→α) (L:Nat→Bool) (f0:Nat→α):Nat→(Nat→α)
 |0=>f0
 |n+1=>if L n then vL (val w v L f0 n) (w n) (v n) else val w v L f0 n
variable {w:Nat→Option Nat}{v:Nat→α}{L:Nat→Bool}{f0:Nat→α}
end val
abbrev VT:=Lc×Wr
def top:Nat→Bool:=fun _=>true
def V2 (X:Ctx) (Q:Exit→St→Prop) (ops:Array Oper) (i:Nat) (T T':St):Prop:=∀ κ sv a w,bk X κ sv T a w →
 wpOpIn X.F 0 X.Z.P ops (lift X Q) i (fun a' w'=>∃ aA aQ,bk X aA aQ T' a' w') a w
def Snd (X:Ctx) (Q:Exit→St→Prop) (ops:Array Oper) (i:Nat) (S:St) (lc:Lc) (wr:Wr) (v:Vl):Prop:=∀ T,rk lc S T→V2 X Q ops i T (T.app wr v)
def vu (o:Oper):List Nat:=(o.after.toList.filter (Region.binds .any)).map (·.on)
def No (acc:List Nat) (l:List Nat):Nat:=l.foldl (fun s j=>s ||| (2 ^ j ||| (acc[j]?).getD 0)) 0
def J0 (acc:List Nat):List Oper→List Nat
 |[]=>acc
 |o::l=>J0 (acc++[No acc (vu o)]) l
def am3 (ops:List Oper):Bool:=ops.zipIdx.all fun (o,i)=>(vu o).all fun j=>Nat.blt j i
theorem Uz {acc l:List Nat}{b:Nat}:(No acc l).testBit b=true→∃ j∈l,j=b∨((acc[j]?).getD 0).testBit b=true:=by
 have key:∀ (l:List Nat) (s:Nat),(l.foldl (fun s j=>s ||| (2 ^ j ||| (acc[j]?).getD 0)) s).testBit b=true→s.testBit b=true∨∃ j∈l,j=b∨((acc[j]?).getD 0).testBit b=true:=by
  intro l
  induction l with
  |nil=>intro s h;exact .inl h
  |cons x l ih =>
   intro s h
   rcases ih _ h with h|⟨j,hj,h⟩
   ·simp only[Nat.testBit_or,Nat.testBit_two_pow,Bool.or_eq_true,decide_eq_true_eq]at h
    rcases h with h|h|h
    ·exact .inl h
    ·exact .inr ⟨x,List.mem_cons_self ..,.inl h⟩
    ·exact .inr ⟨x,List.mem_cons_self ..,.inr h⟩
   ·exact .inr ⟨j,List.mem_cons_of_mem _ hj,h⟩
 intro h
 rcases key l 0 h with h|h
 ·simp at h
 ·exact h
def Kx (ops:List Oper) (L:Nat→Bool):Prop:=∀ i o,ops[i]?=some o→L i=true→∀ j∈vu o,L j=true
theorem Yi {ops:List Oper}{L:Nat→Bool} (hc:Kx ops L):∀ (l:List Oper) (acc:List Nat) (pre:List Oper),ops=pre++l→acc.length=pre.length →
  (∀ (i:Nat) (o:Oper) (b:Nat),pre[i]?=some o→((acc[i]?).getD 0).testBit b=true→(∀ j∈vu o,L j=true)→L b=true) →
  ∀ (i:Nat) (o:Oper) (b:Nat),ops[i]?=some o→(((J0 acc l)[i]?).getD 0).testBit b=true→(∀ j∈vu o,L j=true)→L b=true:=by
 intro l
 induction l with
 |nil=>intro acc pre h1 h2 h3 i o b ho hb hd;rw[h1,List.append_nil]at ho;exact h3 i o b ho hb hd
 |cons x l ih =>
  intro acc pre h1 h2 h3
  refine ih (acc++[No acc (vu x)]) (pre++[x]) (by simp[h1]) (by simp[h2]) (fun i o b ho hb hd=>?_)
  rw[List.getElem?_append]at ho hb
  by_cases hi:i<pre.length
  ·rw[if_pos hi]at ho
   rw[if_pos (by omega)]at hb
   exact h3 i o b ho hb hd
  ·rw[if_neg hi]at ho
   rw[if_neg (by omega)]at hb
   have Im:i - pre.length=0:=by
    have:=(List.getElem?_eq_some_iff.1 ho).1
    simp at this;omega
   rw[Im]at ho
   simp at ho
   subst ho
   rw[show i - acc.length=0 by omega]at hb
   simp at hb
   obtain ⟨j,hj,h|h⟩:=Uz hb
   ·subst h;exact hd j hj
   ·by_cases hjp:j<pre.length
    ·have hjo:pre[j]?=some pre[j]:=List.getElem?_eq_getElem hjp
     refine h3 j _ b hjo h (hc j _ ?_ (hd j hj))
     rw[h1,List.getElem?_append_left hjp];exact hjo
    ·rw[List.getElem?_eq_none (by omega)]at h;simp at h
section
variable {X:Ctx}{Q:Exit→St→Prop}{S S' S0:St}{ops:Array Oper}{o:Oper}
def Reg (X:Ctx) (Q:Exit→St→Prop) (ops:Array Oper) (S0:St):Prop:=∀ κ sv a w,bk X κ sv S0 a w →
 wpAnyIn X.F 0 X.Z.P .any ops (lift X Q) ops.size (Array.replicate ops.size false) a w
end
end Go.Ab
namespace Go.Ab
open Go Go.RowKit
def aom (S:St) (lc:Lc) (h:Nat→Nat):St:=⟨fun i=>bif bc i lc.rr then S.ρ i else .undef,fun s=>bif bc s lc.rg then S.γ s else h s,fun s=>bif bc s lc.ro then S.σ s else .none⟩
def slotsOf:List Operand→List Nat
 |[]=>[]
 |.tmp t::l=>t::slotsOf l
 |_::l=>slotsOf l
mutual
def Rr:D→List Nat
 |.bx s _ _=>[s]
 |.mb s _ _=>[s]
 |.os s _=>[s]
 |.op s _ _ _ _=>[s]
 |.ow s _ _ _ _=>[s]
 |.agg l=>NF l
 |.bn l=>NF l
 |.fn _ l=>NF l
 |.mf _ l=>NF l
 |_=>[]
def NF:List D→List Nat
 |[]=>[]
 |d::l=>Rr d++NF l
end
def NH (X:Ctx) (S:St):List Operand→List Nat
 |[]=>[]
 |x::l=>Rr (S.ev X x)++NH X S l
def lvl (o:Oper):Nat:=match o.op with
 |.move _|.assign _|.pick ..|.binOp ..|.unOp ..|.extract ..|.build ..|.convert ..|.field ..=>0
 |.fieldAddr ..|.nilCheck _=>1
 |_=>2
def vF (X:Ctx) (S:St) (o:Oper):Lc :=
 ⟨slotsOf o.op.operands.toList,(match lvl o with|0=>[]|_=>NH X S o.op.operands.toList),(match lvl o with|0=>[]|1=>[]|_=>NH X S o.op.operands.toList)⟩
def Lc.plus (lc:Lc) (gs:List Nat) (PF:List Nat):Lc:=⟨gs++lc.rr,PF++lc.rg,lc.ro⟩
section
variable {X:Ctx}{Q:Exit→St→Prop}{S S' T:St}
theorem I0 {t:Nat}:∀ {l:List Operand},Operand.tmp t∈l→t∈slotsOf l
 |[],h=>by cases h
 |x::l,h=>by
  rcases List.mem_cons.1 h with rfl|h
  ·simp[slotsOf]
  ·have:=I0 h
   cases x<;>simp[slotsOf,this]
theorem tn {x:Operand} (h:∀ t,x=.tmp t→T.ρ t=S.ρ t):T.ev X x=S.ev X x:=by
 cases x with
 |tmp t=>simp only[St.ev,h t rfl]
 |_=>rfl
theorem NJ {x:Operand}{s:Nat}:∀ {l:List Operand},x∈l→s∈Rr (S.ev X x)→s∈NH X S l
 |[],h,_=>by cases h
 |y::l,h,hs=>by
  unfold NH
  rcases List.mem_cons.1 h with rfl|h
  ·exact List.mem_append_left _ hs
  ·exact List.mem_append_right _ (NJ h hs)
theorem BL {κ:Nat→Nat→Option Value}{sv:Nat→Value}{a:Act}{w:World} (h1:∀ i,S'.ρ i=.undef∨S'.ρ i=S.ρ i) (h2:∀ s,S.γ s≤S'.γ s) (h3:∀ s,S'.σ s=.none∨S'.σ s=S.σ s) (hs:bk X κ sv S a w):bk X κ sv S' a w:=by
 have hle:Le κ κ S.γ S'.γ sv sv:=⟨fun _ _ _ h=>h,h2,fun _ _=>rfl⟩
 refine ⟨hs.size,hs.defers,fun i hi=>?_,?_⟩
 ·rcases h1 i with h|h
  ·rw[h];exact .undef _
  ·rw[h];exact(hs.slot i hi).mono hle
 ·obtain ⟨w1,w2,w3,w4,w5,⟨M,w6,w6'⟩,w7,w8,w9,w10,w11,w12,w13,w14,w15⟩:=hs.aJ
  have hb:∀ t b,aL (S'.σ t) (sv t)=some b→aL (S.σ t) (sv t)=some b:=by
   intro t b h
   rcases h3 t with e|e
   ·rw[e]at h;cases h
   ·rw[← e];exact h
  refine ⟨w1,fun s=>?_,fun s t b fN ht=>w3 s t b (hb s b fN) (hb t b ht),fun s b o h=>w4 s b o (hb s b h),fun s b h=>w5 s b (hb s b h),⟨M,w6,fun s b h=>w6' s b (hb s b h)⟩,fun g l hg=>?_,w8,fun b bz=>?_,w10,w11.trans hle,w12,fun s b h=>w13 s b (hb s b h),w14,w15⟩
  ·rcases h3 s with e|e
   ·rw[e];trivial
   ·rw[e];exact dZ hle rfl (fun _ _=>rfl) (w2 s)
  ·obtain ⟨hc,u,hu,hk⟩:=w7 g l hg
   exact⟨hc,u,hu.mono hle,hk⟩
  ·obtain ⟨e1,e2⟩:=w9 b bz
   have:=h2 0
   exact⟨by omega,fun e=>e2 (by omega)⟩
def FQ (X:Ctx) (o:Oper) (S:St) (d:D):Prop:=∀ h,dy X o (aom S (vF X S o) h) d
def Want (X:Ctx) (S:St) (ops:Array Oper) (o:Oper) (gs:List Nat):Prop :=
 (o.guard=none∧gs=[])∨∃ j b t,o.guard=some (j,b)∧(ops[j]?).bind (·.dst)=some t∧S.ev X (.tmp t)=.bool b∧gs=[t]
theorem ZH {ops:Array Oper}{o:Oper} (h:o.guard=none):Want X S ops o []:=.inl ⟨h,rfl⟩
theorem ZI {ops:Array Oper}{o:Oper}{j t:Nat}{b:Bool} (h:o.guard=some (j,b)) (hj:(ops[j]?).bind (·.dst)=some t) (hb:S.ev X (.tmp t)=.bool b):Want X S ops o [t]:=.inr ⟨j,b,t,h,hj,hb,rfl⟩
variable {ops:Array Oper}{o:Oper}{rest:List Oper}{S0:St}{E:List VT}{V:List Vl}
theorem ag8 {gs:List Nat} (h:Want X S ops o gs) (ha:∀ t∈gs,T.ρ t=S.ρ t) {κ:Nat→Nat→Option Value}{sv:Nat→Value}{a:Act}{w:World} (hs:bk X κ sv T a w):Region.wanted o (yielded ops a.tmps)=true:=by
 rcases h with ⟨h,_⟩|⟨j,b,t,h1,h2,h3,rfl⟩
 ·simp[Region.wanted,h]
 ·have:T.ev X (.tmp t)=.bool b:=by rw[tn fun t' e=>by cases e;exact ha t (by simp)];exact h3
  rw[vf hs h1 h2 this];simp
theorem Sn {lc:Lc}{gs PF:List Nat} (h:rk (lc.plus gs PF) S T):rk lc S T∧(∀ t∈gs,T.ρ t=S.ρ t)∧(∀ s∈PF,T.γ s=S.γ s) :=
 ⟨⟨fun t ht=>h.rr t (List.mem_append_right _ ht),fun t ht=>h.rg t (List.mem_append_right _ ht),h.ro⟩,fun t ht=>h.rr t (List.mem_append_left _ ht),fun t ht=>h.rg t (List.mem_append_left _ ht)⟩
structure FN (X:Ctx) (o:Oper) (S:St) (PF:List Nat) (wr:Wr) (v:Vl):Prop where
 run:∀ T,rk (vF X S o) S T→(∀ s∈PF,T.γ s=S.γ s)→kf X o T (T.app wr v)
theorem Z1 (h:rk (vF X S o) S T) {x:Operand} (hx:x∈o.op.operands.toList):T.ev X x=S.ev X x:=tn fun t e=>by subst e;exact h.rr t (I0 hx)
theorem Z2 (h:rk (vF X S o) S T) (hl:lvl o≠0) {x:Operand} (hx:x∈o.op.operands.toList) {s:Nat} (hs:s∈Rr (S.ev X x)):T.γ s=S.γ s:=h.rg s (by
 simp only[vF]
 cases e:lvl o with
 |zero=>exact absurd e hl
 |succ n=>exact NJ hx hs)
theorem Z3 (h:rk (vF X S o) S T) (hl:lvl o=2) {x:Operand} (hx:x∈o.op.operands.toList) {s:Nat} (hs:s∈Rr (S.ev X x)):T.σ s=S.σ s:=h.ro s (by
 simp only[vF,hl];exact NJ hx hs)
end
end Go.Ab
namespace Go.Ab
open Go Go.RowKit
def acH (S S':St):List Nat→Prop
 |[]=>True
 |i::l=>S'.ρ i=S.ρ i∧acH S S' l
def acG (S S':St):List Nat→Prop
 |[]=>True
 |i::l=>(S'.γ i=S.γ i∧S'.σ i=S.σ i)∧acG S S' l
structure atg (S S':St) (kr kp:List Nat) (rs:List (Nat×D)) (gs:List (Nat×Nat)) (os:List (Nat×Own)):Prop where
 rs:RX S'.ρ rs
 gs:RX S'.γ gs
 os:RX S'.σ os
 kr:acH S S' kr
 kp:acG S S' kp
section
variable {X:Ctx}{Q:Exit→St→Prop}{S:St}
end
end Go.Ab
