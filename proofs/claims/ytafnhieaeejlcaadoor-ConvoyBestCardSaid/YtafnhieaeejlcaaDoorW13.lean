/- Walks by computing: what each function of the program that the laws reach gives for what it gets, as plain Lean, and that it is so; without a condition but those that stand in each theorem. -/
import Derived.Test.YtafnhieaeejlcaaDoorW1
import Derived.Test.YtafnhieaeejlcaaDoorW2
import Derived.Test.YtafnhieaeejlcaaDoorW3
import Derived.Test.YtafnhieaeejlcaaDoorW4
import Derived.Test.YtafnhieaeejlcaaDoorW5
import Derived.Test.YtafnhieaeejlcaaDoorW6
import Derived.Test.YtafnhieaeejlcaaDoorW7
import Derived.Test.YtafnhieaeejlcaaDoorW8
import Derived.Test.YtafnhieaeejlcaaDoorW9
import Derived.Test.YtafnhieaeejlcaaDoorW10
import Derived.Test.YtafnhieaeejlcaaDoorW11
import Derived.Test.YtafnhieaeejlcaaDoorW12
set_option linter.all false
namespace Go.Proofs.Plain04
open Go
open Go.Ab hiding atP
open Go.Proofs.YtafnhieaeejlcaaDoor (dw iD eF bG cn bc bf bX gD eO de im bL eX gH atP gone fc Bg jw dH eT jj fa wc pj lR lU pB fH jc pr jI gA ix gG nI sB bI ju)
set_option linter.all false
abbrev Ml:=Go.Proofs.YtafnhieaeejlcaaDoor.Truck
abbrev Tw:=Go.Proofs.YtafnhieaeejlcaaDoor.Span
def oS(s:Span):Tw:=⟨s.Lo,s.Hi⟩
def Dk(t:Truck)(b:Bool):Truck:=if b then⟨t.Way,t.Start,t.Pace,[]⟩else t
theorem AY(t:Truck)(b:Bool):oT (Dk t b)=bf (oT t) b:=by cases b<;>rfl
theorem Ki{len:Int}{t:Truck}(h:fc len (oT t)){i:Nat}(hi:i<t.Holds.length):1≤(t.Holds.getD i dv).At∧(t.Holds.getD i dv).At≤len-1∧0≤(t.Holds.getD i dv).Until∧(t.Holds.getD i dv).Until≤10000:=
 h.ho.mem (oH (t.Holds.getD i dv)) (List.mem_map.2 ⟨_,oI hi,rfl⟩)
theorem Ht{len:Int}{t:Truck}(h:fc len (oT t)):t.Holds.length≤8:=by have:=h.ho.1;simpa[oT]using this
theorem IB(way len m:Int)(h:Hold)(hs:List Go.Proofs.YtafnhieaeejlcaaDoor.Hold):bG way len m (oH h::hs)=if h.Until>m then bc way len h.At else bG way len m hs:=rfl
theorem m4(r:cF){m:Int}(h1:0≤r.length)(h2:r.length≤1000000)(h3: -1000000≤m)(h4:m≤1000000):ja r m=some (bc r.Truck.Way r.length m):=by
 rw[su];unfold nc bc
 by_cases e:r.Truck.Way=2
 ·simp only[e,beq_self_eq_true,cond_true,if_true];rw[aY (by omega) (by omega)]
 ·rw[Jo (by simpa using e),if_neg e]
end Go.Proofs.Plain04
namespace Go.Proofs.Plain04
open Go
open Go.Ab hiding atP
open Go.Proofs.YtafnhieaeejlcaaDoor (dw iD eF bG cn bc bf bX gD eO de im bL eX gH atP gone fc Bg jw dH eT jj fa wc pj lR lU pB fH jc pr jI gA ix gG nI sB bI ju s9)
set_option linter.all false
theorem Bm{r:cF}(h:fc r.length (oT r.Truck))(m:Int):zr r m=some (bG r.Truck.Way r.length m (r.Truck.Holds.map oH)):=by
 rw[Bo];apply ok_eq
 have hl:=Ht h
 have l1:=h.l1
 have l2:=h.l2
 refine Ok.rounds (fun v=>0≤v.1.2.1∧v.1.2.1≤r.Truck.Holds.length∧bG r.Truck.Way r.length m ((r.Truck.Holds.map oH).drop v.1.2.1.toNat)=bG r.Truck.Way r.length m (r.Truck.Holds.map oH)) (fun v=>((r.Truck.Holds.length:Int)-v.1.2.1).toNat) ?_ ?_ ?_
 ·show((r.Truck.Holds.length:Int)-0).toNat<18446744073709551616
  omega
 ·exact⟨Int.le_refl _,by show(0:Int)≤_;omega,rfl⟩
 ·rintro ⟨⟨_,i,_⟩,_⟩ kn ⟨i1,i2,i3⟩ hk
  simp only at i1 i2 i3
  have e:bz (i+1)=i+1:=aY (by omega) (by omega)
  refine Ok.ite (fun hlt=> ?_) fun hge=>Ok.some ?_
  ·simp only[decide_eq_true_eq]at hlt
   have hi:i.toNat<r.Truck.Holds.length:=by omega
   obtain⟨b1,b2,b3,b4⟩:=Ki h hi
   rw[Pn (d:=dv) hi,IB]at i3
   refine Ok.aW (ib i1 hlt) (Ok.ite (fun hc=> ?_) fun hc=> ?_)
   ·simp only[decide_eq_true_eq]at hc
    rw[if_pos hc]at i3
    exact Ok.beq (m4 r (m:=(r.Truck.Holds.getD i.toNat dv).At) (by omega) (by omega) (by omega) (by omega)) (Ok.some i3)
   ·simp only[decide_eq_false_iff_not]at hc
    rw[if_neg hc]at i3
    refine hk _ ⟨by simp only[e];omega,by simp only[e];omega, ?_⟩ (by simp only[e];omega)
    simp only[e];rw[Em i1];exact i3
  ·simp only[decide_eq_false_iff_not]at hge
   rw[List.drop_eq_nil_of_le (by simp;omega)]at i3;exact i3
def uI(t:Truck)(len:Int)(n k:Nat):List (Int×Span×Unit):=(List.range n).map fun j=>(t.Start+((k+j:Nat):Int),nS (gone (oT t) len (k+j)),())
theorem G6(t:Truck)(len:Int)(n k:Nat):uI t len (n+1) k=(t.Start+(k:Int),nS (gone (oT t) len k),())::uI t len n (k+1):=by
 unfold uI
 rw[List.range_succ_eq_map,List.map_cons,List.map_map]
 refine congrArg _ (List.map_congr_left fun j _=> ?_)
 show(t.Start+((k+(j+1):Nat):Int),nS (gone (oT t) len (k+(j+1))),())=_
 rw[show k+(j+1)=k+1+j by omega]
def jD(t:Truck)(len:Int):Nat:=cn (oT t) len t.Pace.Lo
theorem C4{r:cF}(h:fc r.length (oT r.Truck)):nL r=some (uI r.Truck r.length (jD r.Truck r.length+1) 0):=by
 rw[uw];apply ok_eq
 have l1:=h.l1
 have l2:=h.l2
 have p1:=h.p1
 have p2:=h.p2
 have p3:=h.p3
 have s1:=h.s1
 have s2:=h.s2
 simp only[oT]at p1 p2 p3 s1 s2
 obtain⟨e1,e2,e3⟩:=fa h (Int.le_refl (oT r.Truck).lo)
 change _=_ at e1
 change∀j,j<jD r.Truck r.length→_ at e2
 change jD r.Truck r.length≤_ at e3
 have e1:dw (oT r.Truck) r.length r.Truck.Pace.Lo (jD r.Truck r.length)=r.length:=e1
 have e2:∀j,j<jD r.Truck r.length→dw (oT r.Truck) r.length r.Truck.Pace.Lo j≠r.length:=e2
 generalize hK:jD r.Truck r.length=K at*
 refine Ok.KN (fun v=>∃k:Nat,k≤K∧v=(((),(),r.Truck.Start+(k:Int),()),((dw (oT r.Truck) r.length r.Truck.Pace.Lo k,dw (oT r.Truck) r.length r.Truck.Pace.Hi k,()),()))) (fun v=>(r.Truck.Start+(K:Int)-v.1.2.2.1).toNat) (fun v l=>∀k:Nat,v.1.2.2.1=r.Truck.Start+(k:Int)→l=uI r.Truck r.length (K+1-k) k) ?_ ?_ ?_|>.mono fun l hl=>hl 0 (by simp)
 ·show(r.Truck.Start+(K:Int)-r.Truck.Start).toNat<18446744073709551616
  omega
 ·exact⟨0,Nat.zero_le _,by simp[dw]⟩
 ·rintro v kn ⟨k,hk1,rfl⟩ hk
  have b1:=dH h.l1 h.ho (pace:=r.Truck.Pace.Lo) p1 k
  have b2:=dH h.l1 h.ho (pace:=r.Truck.Pace.Hi) (by omega) k
  have n1:=eT (t:=oT r.Truck) (len:=r.length) (pace:=r.Truck.Pace.Lo) h.l1 h.ho h.so p1 k
  have n2:=eT (t:=oT r.Truck) (len:=r.length) (pace:=r.Truck.Pace.Hi) h.l1 h.ho h.so (by omega) k
  have ew:bz (r.Truck.Start+(k:Int)+1)=r.Truck.Start+((k+1:Nat):Int):=by rw[aY (by omega) (by omega)];push_cast;omega
  have key:∀y:Option (List (Int×Span×Unit)),Ok (fun l=>l=uI r.Truck r.length (K-k) (k+1)) y→Ok (fun l=>∀k' :Nat,r.Truck.Start+(k:Int)=r.Truck.Start+(k' :Int)→l=uI r.Truck r.length (K+1-k') k') (BN (r.Truck.Start+(k:Int),(⟨dw (oT r.Truck) r.length r.Truck.Pace.Lo k,dw (oT r.Truck) r.length r.Truck.Pace.Hi k⟩:Span),()) (some []) y):=by
   rintro y ⟨l,rfl,rfl⟩
   refine⟨_,rfl,fun k' hk' => ?_⟩
   obtain rfl:k=k' :=by omega
   rw[show K+1-k=(K-k)+1 by omega,G6];rfl
  refine key _ (Ok.ite (fun hc=> ?_) fun hc=>Ok.some ?_)
  ·simp only[decide_eq_true_eq]at hc
   have hkK:k<K:=by
    rcases Nat.lt_or_ge k K with h|h
    ·exact h
    ·obtain rfl:k=K:=by omega
     rw[e1]at hc;omega
   refine Ok.beq (Bm h _) (hk _ ⟨k+1,by omega, ?_⟩ ?_|>.mono fun l hl=> ?_)
   ·have ew1:bz (dw (oT r.Truck) r.length r.Truck.Pace.Lo k+r.Truck.Pace.Lo)=dw (oT r.Truck) r.length r.Truck.Pace.Lo k+r.Truck.Pace.Lo:=aY (by omega) (by omega)
    have ew2:bz (dw (oT r.Truck) r.length r.Truck.Pace.Hi k+r.Truck.Pace.Hi)=dw (oT r.Truck) r.length r.Truck.Pace.Hi k+r.Truck.Pace.Hi:=aY (by omega) (by omega)
    simp only[ew,ew1,ew2]
    rw[n1,n2];rfl
   ·show(r.Truck.Start+(K:Int)-bz (r.Truck.Start+(k:Int)+1)).toNat<(r.Truck.Start+(K:Int)-(r.Truck.Start+(k:Int))).toNat
    rw[ew];omega
   ·rw[hl (k+1) ew,show K+1-(k+1)=K-k by omega]
  ·simp only[decide_eq_false_iff_not]at hc
   have hkK:k=K:=by
    rcases Nat.lt_or_ge k K with h|h
    ·exact absurd (by omega) (e2 k h)
    ·omega
   rw[hkK,Nat.sub_self];rfl
def x9(r:cF):bQ:=⟨r,(List.range (jD r.Truck r.length+1)).map fun k=>nS (gone (oT r.Truck) r.length k)⟩
theorem sd{r:cF}(h:fc r.length (oT r.Truck)):jD r.Truck r.length≤11000:=(fa h (Int.le_refl (oT r.Truck).lo)).2.2
theorem vg{r:cF}(h:fc r.length (oT r.Truck)):po r=some (x9 r):=by
 rw[vm];apply ok_eq
 have e3:=sd h
 refine Ok.beq (a:=r) (by rw[wu];rfl) (Ok.beq (C4 h) ?_)
 refine Ok.rounds (fun v=>v.2.length≤jD r.Truck r.length+1∧∃g:List Span,g.length+v.2.length=jD r.Truck r.length+1∧g++v.2.map (fun a=>a.2.1)=(x9 r).gone∧v.1=(((),(),()),((r.Truck.Way,r.Truck.Start,r.Truck.Pace.Lo,r.Truck.Pace.Hi,r.Truck.Holds,r.length,g,()),()))) (fun v=>v.2.length) ?_ ?_ ?_
 ·show(uI r.Truck r.length (jD r.Truck r.length+1) 0).length<18446744073709551616
  simp[uI];omega
 ·refine⟨by simp[uI],[],by simp[uI], ?_,rfl⟩
  simp only[uI,x9,List.nil_append,List.map_map]
  exact List.map_congr_left fun j _=>by simp
 ·rintro ⟨v,l⟩ kn ⟨h1,g,h2,h3,rfl⟩ hk
  cases l with
  |nil=>
   refine Ok.some ?_
   simp only[List.map_nil,List.append_nil]at h3
   rw[h3];rfl
  |cons a l=>
   simp only[List.length_cons]at h1 h2
   refine Ok.aW (eY (n:=g.length+1) (by omega) (by omega)) (hk _ ⟨by show l.length≤_;omega,g++[a.2.1],by show(g++[a.2.1]).length+l.length=_;simp;omega, ?_,rfl⟩ (by show l.length<_;simp))
   rw[←h3];simp
theorem zJ{c:Convoy}{k:Nat}(hk:k<c.Trucks.length)(b:Bool):tF c k b=some ⟨Dk (c.Trucks.getD k ax) b,c.Length⟩:=by
 rw[yG];unfold u5
 have:(decide (0≤(k:Int))&&decide ((k:Int)<(c.Trucks.length:Int)))=true:=ib (by omega) (by omega)
 rw[this]
 cases b<;>rfl
theorem om{r:cF}(h:fc r.length (oT r.Truck)):kS (x9 r)=some (r.Truck.Start+(jD r.Truck r.length:Int)):=by
 rw[tT];unfold pn
 have e3:=sd h
 have s1:=h.s1
 have s2:=h.s2
 simp only[oT]at s1 s2
 simp only[x9,ez]
 rw[aY (n:=r.Truck.Start+_) (by omega) (by omega),aY (by omega) (by omega)]
 refine congrArg some ?_;push_cast;omega
theorem DP{r:cF}(h:fc r.length (oT r.Truck)){m:Int}(m0: -1000000≤m)(m1:m≤1000000):ry (x9 r) m=some (nS (atP (oT r.Truck) r.length m)):=by
 rw[vI];unfold sw atP
 have e3:=sd h
 have s1:=h.s1
 have s2:=h.s2
 simp only[oT]at s1 s2
 have e1:bz (m-(x9 r).ride.Truck.Start)=m-r.Truck.Start:=aY (by simp only[x9];omega) (by simp only[x9];omega)
 have e2:bz (((x9 r).gone.length:Int)-1)=(jD r.Truck r.length:Int):=by
  simp only[x9,ez]
  rw[aY (by omega) (by omega)];push_cast;omega
 have e4:((x9 r).gone.length:Int)=(jD r.Truck r.length:Int)+1:=by simp only[x9,ez];push_cast;rfl
 rw[e1,e2,e4]
 have e5:(cn (oT r.Truck) r.length (oT r.Truck).lo)=jD r.Truck r.length:=rfl
 have e6:(oT r.Truck).start=r.Truck.Start:=rfl
 rw[e5,e6]
 by_cases hn:min (m-r.Truck.Start) (jD r.Truck r.length:Int)<0
 ·rw[Mh (by simpa using hn),if_pos hn];rfl
 ·rw[Jo (by simpa using hn),if_neg hn]
  have hb:(decide (0≤min (m-r.Truck.Start) (jD r.Truck r.length:Int))&&decide (min (m-r.Truck.Start) (jD r.Truck r.length:Int)<(jD r.Truck r.length:Int)+1))=true:=by simp;omega
  rw[hb]
  show some ((x9 r).gone.getD _ _)=_
  simp only[x9]
  rw[dM _ _ (by omega)]
theorem sx{r:cF}(h:fc r.length (oT r.Truck)){g:Span}(h1: -1000000≤g.Lo)(h2:g.Lo≤1000000)(h3: -1000000≤g.Hi)(h4:g.Hi≤1000000):j9 (x9 r) g=some (nS (gH r.Truck.Way r.length (oS g))):=by
 rw[rH];apply ok_eq
 have l1:=h.l1
 have l2:=h.l2
 exact Ok.beq (m4 r (by omega) (by omega) (by omega) (by omega)) (Ok.beq (m4 r (by omega) (by omega) (by omega) (by omega)) (Ok.some rfl))
theorem sr{r:cF}(h:fc r.length (oT r.Truck)){m:Int}(m0: -1000000≤m)(m1:m≤1000000):kd (x9 r) m=some (nS (bX (oT r.Truck) r.length m).1,(bX (oT r.Truck) r.length m).2):=by
 rw[rV];apply ok_eq
 have l1:=h.l1
 have l2:=h.l2
 obtain⟨b1,b2,b3,b4⟩:=pB (m:=m) h
 obtain⟨p1,p2⟩:=fH (m:=m) h
 unfold bX
 by_cases a1:m<r.Truck.Start
 ·refine Ok.yes (decide_eq_true (show m<r.Truck.Start from a1)) (Ok.some ?_)
  rw[if_pos (show m<(oT r.Truck).start from a1)];rfl
 refine Ok.no (decide_eq_false (show¬m<r.Truck.Start from a1)) (Ok.beq (DP h m0 m1) (Ok.beq (Bm h m) ?_))
 rw[if_neg (show¬m<(oT r.Truck).start from a1)]
 change 1≤bG r.Truck.Way r.length m (r.Truck.Holds.map oH)at p1
 change bG r.Truck.Way r.length m (r.Truck.Holds.map oH)≤r.length at p2
 by_cases a2:(atP (oT r.Truck) r.length m).hi<bG r.Truck.Way r.length m (r.Truck.Holds.map oH)
 ·refine Ok.yes (decide_eq_true a2) (Ok.beq (sx h (by simp only[nS];omega) (by simp only[nS];omega) (by simp only[nS];omega) (by simp only[nS];omega)) (Ok.some ?_))
  rw[if_pos (show(atP (oT r.Truck) r.length m).hi<bG (oT r.Truck).way r.length m (oT r.Truck).holds from a2)];rfl
 refine Ok.no (decide_eq_false a2) ?_
 rw[if_neg (show¬(atP (oT r.Truck) r.length m).hi<bG (oT r.Truck).way r.length m (oT r.Truck).holds from a2)]
 by_cases a3:(atP (oT r.Truck) r.length m).lo≥bG r.Truck.Way r.length m (r.Truck.Holds.map oH)
 ·refine Ok.yes (decide_eq_true a3) (Ok.some ?_)
  rw[if_pos (show(atP (oT r.Truck) r.length m).lo≥bG (oT r.Truck).way r.length m (oT r.Truck).holds from a3)];rfl
 ·have e:bz (bG r.Truck.Way r.length m (r.Truck.Holds.map oH)-1)=bG r.Truck.Way r.length m (r.Truck.Holds.map oH)-1:=aY (by omega) (by omega)
  refine Ok.no (decide_eq_false a3) ?_
  rw[e]
  refine Ok.beq (sx h (by simp only[nS];omega) (by simp only[nS];omega) (by simp only[nS];omega) (by simp only[nS];omega)) (Ok.some ?_)
  rw[if_neg (show¬(atP (oT r.Truck) r.length m).lo≥bG (oT r.Truck).way r.length m (oT r.Truck).holds from a3)];rfl
def lO(c:Convoy)(t:Truck):br:=⟨x9 ⟨Dk t false,c.Length⟩,x9 ⟨Dk t true,c.Length⟩⟩
end Go.Proofs.Plain04
