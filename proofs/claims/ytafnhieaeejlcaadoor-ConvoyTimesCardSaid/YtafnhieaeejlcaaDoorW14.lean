/- Walks by computing: what each function of the program that the laws reach gives for what it gets, as plain Lean, and that it is so; without a condition but those that stand in each theorem. -/
import Derived.Test.YtafnhieaeejlcaaDoorW1
import Derived.Test.YtafnhieaeejlcaaDoorW2
import Derived.Test.YtafnhieaeejlcaaDoorW3
import Derived.Test.YtafnhieaeejlcaaDoorW4
import Derived.Test.YtafnhieaeejlcaaDoorW5
import Derived.Test.YtafnhieaeejlcaaDoorW6
import Derived.Test.YtafnhieaeejlcaaDoorW7
import Derived.Test.YtafnhieaeejlcaaDoorW8
import Derived.Test.YtafnhieaeejlcaaDoorW9
import Derived.Test.YtafnhieaeejlcaaDoorW10
import Derived.Test.YtafnhieaeejlcaaDoorW11
import Derived.Test.YtafnhieaeejlcaaDoorW12
import Derived.Test.YtafnhieaeejlcaaDoorW13
set_option linter.all false
namespace Go.Proofs.Plain04
open Go
open Go.Ab hiding atP
open Go.Proofs.YtafnhieaeejlcaaDoor (dz ix eB bE cj br bb bW gy eN cY ic bK eW gD atP gone eZ A7 ng dK eS iX eV vt pg mv lM ph fI jd o8 jr gE iF gC nA ra bI jn)
set_option linter.all false
abbrev OD:=Go.Proofs.YtafnhieaeejlcaaDoor.Truck
abbrev S7:=Go.Proofs.YtafnhieaeejlcaaDoor.Span
def oS(s:Span):S7:=⟨s.Lo,s.Hi⟩
def De(t:Truck)(b:Bool):Truck:=if b then⟨t.Way,t.Start,t.Pace,[]⟩else t
theorem zR(t:Truck)(b:Bool):oT (De t b)=bb (oT t) b:=by cases b<;>rfl
theorem Jd{len:Int}{t:Truck}(h:eZ len (oT t)){i:Nat}(hi:i<t.Holds.length):1≤(t.Holds.getD i dB).At∧(t.Holds.getD i dB).At≤len-1∧0≤(t.Holds.getD i dB).Until∧(t.Holds.getD i dB).Until≤10000:=
 h.ho.mem (oH (t.Holds.getD i dB)) (List.mem_map.2 ⟨_,nN hi,rfl⟩)
theorem GQ{len:Int}{t:Truck}(h:eZ len (oT t)):t.Holds.length≤8:=by have:=h.ho.1;simpa[oT]using this
theorem Je(way len m:Int)(h:Hold)(hs:List Go.Proofs.YtafnhieaeejlcaaDoor.Hold):bE way len m (oH h::hs)=if h.Until>m then br way len h.At else bE way len m hs:=rfl
theorem mM(r:cF){m:Int}(h1:0≤r.length)(h2:r.length≤1000000)(h3: -1000000≤m)(h4:m≤1000000):iW r m=some (br r.Truck.Way r.length m):=by
 rw[sf];unfold m7 br
 by_cases e:r.Truck.Way=2
 ·simp only[e,beq_self_eq_true,cond_true,if_true];rw[bk (by omega) (by omega)]
 ·rw[Gn (by simpa using e),if_neg e]
end Go.Proofs.Plain04
namespace Go.Proofs.Plain04
open Go
open Go.Ab hiding atP
open Go.Proofs.YtafnhieaeejlcaaDoor (dz ix eB bE cj br bb bW gy eN cY ic bK eW gD atP gone eZ A7 ng dK eS iX eV vt pg mv lM ph fI jd o8 jr gE iF gC nA ra bI jn sL)
set_option linter.all false
theorem CE{r:cF}(h:eZ r.length (oT r.Truck))(m:Int):x6 r m=some (bE r.Truck.Way r.length m (r.Truck.Holds.map oH)):=by
 rw[By];apply ok_eq
 have hl:=GQ h
 have l1:=h.l1
 have l2:=h.l2
 refine Ok.rounds (fun v=>0≤v.1.2.1∧v.1.2.1≤r.Truck.Holds.length∧bE r.Truck.Way r.length m ((r.Truck.Holds.map oH).drop v.1.2.1.toNat)=bE r.Truck.Way r.length m (r.Truck.Holds.map oH)) (fun v=>((r.Truck.Holds.length:Int)-v.1.2.1).toNat) ?_ ?_ ?_
 ·show((r.Truck.Holds.length:Int)-0).toNat<18446744073709551616
  omega
 ·exact⟨Int.le_refl _,by show(0:Int)≤_;omega,rfl⟩
 ·rintro ⟨⟨_,i,_⟩,_⟩ kn ⟨i1,i2,i3⟩ hk
  simp only at i1 i2 i3
  have e:bG (i+1)=i+1:=bk (by omega) (by omega)
  refine Ok.ite (fun hlt=> ?_) fun hge=>Ok.some ?_
  ·simp only[decide_eq_true_eq]at hlt
   have hi:i.toNat<r.Truck.Holds.length:=by omega
   obtain⟨b1,b2,b3,b4⟩:=Jd h hi
   rw[PM (d:=dB) hi,Je]at i3
   refine Ok.aP (ib i1 hlt) (Ok.ite (fun hc=> ?_) fun hc=> ?_)
   ·simp only[decide_eq_true_eq]at hc
    rw[if_pos hc]at i3
    exact Ok.beq (mM r (m:=(r.Truck.Holds.getD i.toNat dB).At) (by omega) (by omega) (by omega) (by omega)) (Ok.some i3)
   ·simp only[decide_eq_false_iff_not]at hc
    rw[if_neg hc]at i3
    refine hk _ ⟨by simp only[e];omega,by simp only[e];omega, ?_⟩ (by simp only[e];omega)
    simp only[e];rw[DN i1];exact i3
  ·simp only[decide_eq_false_iff_not]at hge
   rw[List.drop_eq_nil_of_le (by simp;omega)]at i3;exact i3
def uK(t:Truck)(len:Int)(n k:Nat):List (Int×Span×Unit):=(List.range n).map fun j=>(t.Start+((k+j:Nat):Int),nS (gone (oT t) len (k+j)),())
theorem GF(t:Truck)(len:Int)(n k:Nat):uK t len (n+1) k=(t.Start+(k:Int),nS (gone (oT t) len k),())::uK t len n (k+1):=by
 unfold uK
 rw[List.range_succ_eq_map,List.map_cons,List.map_map]
 refine congrArg _ (List.map_congr_left fun j _=> ?_)
 show(t.Start+((k+(j+1):Nat):Int),nS (gone (oT t) len (k+(j+1))),())=_
 rw[show k+(j+1)=k+1+j by omega]
def jo(t:Truck)(len:Int):Nat:=cj (oT t) len t.Pace.Lo
theorem Be{r:cF}(h:eZ r.length (oT r.Truck)):nL r=some (uK r.Truck r.length (jo r.Truck r.length+1) 0):=by
 rw[um];apply ok_eq
 have l1:=h.l1
 have l2:=h.l2
 have p1:=h.p1
 have p2:=h.p2
 have p3:=h.p3
 have s1:=h.s1
 have s2:=h.s2
 simp only[oT]at p1 p2 p3 s1 s2
 obtain⟨e1,e2,e3⟩:=eV h (Int.le_refl (oT r.Truck).lo)
 change _=_ at e1
 change∀j,j<jo r.Truck r.length→_ at e2
 change jo r.Truck r.length≤_ at e3
 have e1:dz (oT r.Truck) r.length r.Truck.Pace.Lo (jo r.Truck r.length)=r.length:=e1
 have e2:∀j,j<jo r.Truck r.length→dz (oT r.Truck) r.length r.Truck.Pace.Lo j≠r.length:=e2
 generalize hK:jo r.Truck r.length=K at*
 refine Ok.KB (fun v=>∃k:Nat,k≤K∧v=(((),(),r.Truck.Start+(k:Int),()),((dz (oT r.Truck) r.length r.Truck.Pace.Lo k,dz (oT r.Truck) r.length r.Truck.Pace.Hi k,()),()))) (fun v=>(r.Truck.Start+(K:Int)-v.1.2.2.1).toNat) (fun v l=>∀k:Nat,v.1.2.2.1=r.Truck.Start+(k:Int)→l=uK r.Truck r.length (K+1-k) k) ?_ ?_ ?_|>.mono fun l hl=>hl 0 (by simp)
 ·show(r.Truck.Start+(K:Int)-r.Truck.Start).toNat<18446744073709551616
  omega
 ·exact⟨0,Nat.zero_le _,by simp[dz]⟩
 ·rintro v kn ⟨k,hk1,rfl⟩ hk
  have b1:=dK h.l1 h.ho (pace:=r.Truck.Pace.Lo) p1 k
  have b2:=dK h.l1 h.ho (pace:=r.Truck.Pace.Hi) (by omega) k
  have n1:=eS (t:=oT r.Truck) (len:=r.length) (pace:=r.Truck.Pace.Lo) h.l1 h.ho h.so p1 k
  have n2:=eS (t:=oT r.Truck) (len:=r.length) (pace:=r.Truck.Pace.Hi) h.l1 h.ho h.so (by omega) k
  have ew:bG (r.Truck.Start+(k:Int)+1)=r.Truck.Start+((k+1:Nat):Int):=by rw[bk (by omega) (by omega)];push_cast;omega
  have key:∀y:Option (List (Int×Span×Unit)),Ok (fun l=>l=uK r.Truck r.length (K-k) (k+1)) y→Ok (fun l=>∀k' :Nat,r.Truck.Start+(k:Int)=r.Truck.Start+(k' :Int)→l=uK r.Truck r.length (K+1-k') k') (Bw (r.Truck.Start+(k:Int),(⟨dz (oT r.Truck) r.length r.Truck.Pace.Lo k,dz (oT r.Truck) r.length r.Truck.Pace.Hi k⟩:Span),()) (some []) y):=by
   rintro y ⟨l,rfl,rfl⟩
   refine⟨_,rfl,fun k' hk' => ?_⟩
   obtain rfl:k=k' :=by omega
   rw[show K+1-k=(K-k)+1 by omega,GF];rfl
  refine key _ (Ok.ite (fun hc=> ?_) fun hc=>Ok.some ?_)
  ·simp only[decide_eq_true_eq]at hc
   have hkK:k<K:=by
    rcases Nat.lt_or_ge k K with h|h
    ·exact h
    ·obtain rfl:k=K:=by omega
     rw[e1]at hc;omega
   refine Ok.beq (CE h _) (hk _ ⟨k+1,by omega, ?_⟩ ?_|>.mono fun l hl=> ?_)
   ·have ew1:bG (dz (oT r.Truck) r.length r.Truck.Pace.Lo k+r.Truck.Pace.Lo)=dz (oT r.Truck) r.length r.Truck.Pace.Lo k+r.Truck.Pace.Lo:=bk (by omega) (by omega)
    have ew2:bG (dz (oT r.Truck) r.length r.Truck.Pace.Hi k+r.Truck.Pace.Hi)=dz (oT r.Truck) r.length r.Truck.Pace.Hi k+r.Truck.Pace.Hi:=bk (by omega) (by omega)
    simp only[ew,ew1,ew2]
    rw[n1,n2];rfl
   ·show(r.Truck.Start+(K:Int)-bG (r.Truck.Start+(k:Int)+1)).toNat<(r.Truck.Start+(K:Int)-(r.Truck.Start+(k:Int))).toNat
    rw[ew];omega
   ·rw[hl (k+1) ew,show K+1-(k+1)=K-k by omega]
  ·simp only[decide_eq_false_iff_not]at hc
   have hkK:k=K:=by
    rcases Nat.lt_or_ge k K with h|h
    ·exact absurd (by omega) (e2 k h)
    ·omega
   rw[hkK,Nat.sub_self];rfl
def xH(r:cF):bP:=⟨r,(List.range (jo r.Truck r.length+1)).map fun k=>nS (gone (oT r.Truck) r.length k)⟩
theorem qY{r:cF}(h:eZ r.length (oT r.Truck)):jo r.Truck r.length≤11000:=(eV h (Int.le_refl (oT r.Truck).lo)).2.2
theorem vT{r:cF}(h:eZ r.length (oT r.Truck)):pB r=some (xH r):=by
 rw[vJ];apply ok_eq
 have e3:=qY h
 refine Ok.beq (a:=r) (by rw[vw];rfl) (Ok.beq (Be h) ?_)
 refine Ok.rounds (fun v=>v.2.length≤jo r.Truck r.length+1∧∃g:List Span,g.length+v.2.length=jo r.Truck r.length+1∧g++v.2.map (fun a=>a.2.1)=(xH r).gone∧v.1=(((),(),()),((r.Truck.Way,r.Truck.Start,r.Truck.Pace.Lo,r.Truck.Pace.Hi,r.Truck.Holds,r.length,g,()),()))) (fun v=>v.2.length) ?_ ?_ ?_
 ·show(uK r.Truck r.length (jo r.Truck r.length+1) 0).length<18446744073709551616
  simp[uK];omega
 ·refine⟨by simp[uK],[],by simp[uK], ?_,rfl⟩
  simp only[uK,xH,List.nil_append,List.map_map]
  exact List.map_congr_left fun j _=>by simp
 ·rintro ⟨v,l⟩ kn ⟨h1,g,h2,h3,rfl⟩ hk
  cases l with
  |nil=>
   refine Ok.some ?_
   simp only[List.map_nil,List.append_nil]at h3
   rw[h3];rfl
  |cons a l=>
   simp only[List.length_cons]at h1 h2
   refine Ok.aP (fa (n:=g.length+1) (by omega) (by omega)) (hk _ ⟨by show l.length≤_;omega,g++[a.2.1],by show(g++[a.2.1]).length+l.length=_;simp;omega, ?_,rfl⟩ (by show l.length<_;simp))
   rw[←h3];simp
theorem x4{c:Convoy}{k:Nat}(hk:k<c.Trucks.length)(b:Bool):ti c k b=some ⟨De (c.Trucks.getD k aK) b,c.Length⟩:=by
 rw[ym];unfold uN
 have:(decide (0≤(k:Int))&&decide ((k:Int)<(c.Trucks.length:Int)))=true:=ib (by omega) (by omega)
 rw[this]
 cases b<;>rfl
theorem oD{r:cF}(h:eZ r.length (oT r.Truck)):km (xH r)=some (r.Truck.Start+(jo r.Truck r.length:Int)):=by
 rw[tT];unfold pn
 have e3:=qY h
 have s1:=h.s1
 have s2:=h.s2
 simp only[oT]at s1 s2
 simp only[xH,dR]
 rw[bk (n:=r.Truck.Start+_) (by omega) (by omega),bk (by omega) (by omega)]
 refine congrArg some ?_;push_cast;omega
theorem Ej{r:cF}(h:eZ r.length (oT r.Truck)){m:Int}(m0: -1000000≤m)(m1:m≤1000000):rb (xH r) m=some (nS (atP (oT r.Truck) r.length m)):=by
 rw[vd];unfold rY atP
 have e3:=qY h
 have s1:=h.s1
 have s2:=h.s2
 simp only[oT]at s1 s2
 have e1:bG (m-(xH r).ride.Truck.Start)=m-r.Truck.Start:=bk (by simp only[xH];omega) (by simp only[xH];omega)
 have e2:bG (((xH r).gone.length:Int)-1)=(jo r.Truck r.length:Int):=by
  simp only[xH,dR]
  rw[bk (by omega) (by omega)];push_cast;omega
 have e4:((xH r).gone.length:Int)=(jo r.Truck r.length:Int)+1:=by simp only[xH,dR];push_cast;rfl
 rw[e1,e2,e4]
 have e5:(cj (oT r.Truck) r.length (oT r.Truck).lo)=jo r.Truck r.length:=rfl
 have e6:(oT r.Truck).start=r.Truck.Start:=rfl
 rw[e5,e6]
 by_cases hn:min (m-r.Truck.Start) (jo r.Truck r.length:Int)<0
 ·rw[JR (by simpa using hn),if_pos hn];rfl
 ·rw[Gn (by simpa using hn),if_neg hn]
  have hb:(decide (0≤min (m-r.Truck.Start) (jo r.Truck r.length:Int))&&decide (min (m-r.Truck.Start) (jo r.Truck r.length:Int)<(jo r.Truck r.length:Int)+1))=true:=by simp;omega
  rw[hb]
  show some ((xH r).gone.getD _ _)=_
  simp only[xH]
  rw[ez _ _ (by omega)]
theorem rm{r:cF}(h:eZ r.length (oT r.Truck)){g:Span}(h1: -1000000≤g.Lo)(h2:g.Lo≤1000000)(h3: -1000000≤g.Hi)(h4:g.Hi≤1000000):j3 (xH r) g=some (nS (gD r.Truck.Way r.length (oS g))):=by
 rw[sa];apply ok_eq
 have l1:=h.l1
 have l2:=h.l2
 exact Ok.beq (mM r (by omega) (by omega) (by omega) (by omega)) (Ok.beq (mM r (by omega) (by omega) (by omega) (by omega)) (Ok.some rfl))
theorem rG{r:cF}(h:eZ r.length (oT r.Truck)){m:Int}(m0: -1000000≤m)(m1:m≤1000000):j5 (xH r) m=some (nS (bW (oT r.Truck) r.length m).1,(bW (oT r.Truck) r.length m).2):=by
 rw[rS];apply ok_eq
 have l1:=h.l1
 have l2:=h.l2
 obtain⟨b1,b2,b3,b4⟩:=ph (m:=m) h
 obtain⟨p1,p2⟩:=fI (m:=m) h
 unfold bW
 by_cases a1:m<r.Truck.Start
 ·refine Ok.yes (decide_eq_true (show m<r.Truck.Start from a1)) (Ok.some ?_)
  rw[if_pos (show m<(oT r.Truck).start from a1)];rfl
 refine Ok.no (decide_eq_false (show¬m<r.Truck.Start from a1)) (Ok.beq (Ej h m0 m1) (Ok.beq (CE h m) ?_))
 rw[if_neg (show¬m<(oT r.Truck).start from a1)]
 change 1≤bE r.Truck.Way r.length m (r.Truck.Holds.map oH)at p1
 change bE r.Truck.Way r.length m (r.Truck.Holds.map oH)≤r.length at p2
 by_cases a2:(atP (oT r.Truck) r.length m).hi<bE r.Truck.Way r.length m (r.Truck.Holds.map oH)
 ·refine Ok.yes (decide_eq_true a2) (Ok.beq (rm h (by simp only[nS];omega) (by simp only[nS];omega) (by simp only[nS];omega) (by simp only[nS];omega)) (Ok.some ?_))
  rw[if_pos (show(atP (oT r.Truck) r.length m).hi<bE (oT r.Truck).way r.length m (oT r.Truck).holds from a2)];rfl
 refine Ok.no (decide_eq_false a2) ?_
 rw[if_neg (show¬(atP (oT r.Truck) r.length m).hi<bE (oT r.Truck).way r.length m (oT r.Truck).holds from a2)]
 by_cases a3:(atP (oT r.Truck) r.length m).lo≥bE r.Truck.Way r.length m (r.Truck.Holds.map oH)
 ·refine Ok.yes (decide_eq_true a3) (Ok.some ?_)
  rw[if_pos (show(atP (oT r.Truck) r.length m).lo≥bE (oT r.Truck).way r.length m (oT r.Truck).holds from a3)];rfl
 ·have e:bG (bE r.Truck.Way r.length m (r.Truck.Holds.map oH)-1)=bE r.Truck.Way r.length m (r.Truck.Holds.map oH)-1:=bk (by omega) (by omega)
  refine Ok.no (decide_eq_false a3) ?_
  rw[e]
  refine Ok.beq (rm h (by simp only[nS];omega) (by simp only[nS];omega) (by simp only[nS];omega) (by simp only[nS];omega)) (Ok.some ?_)
  rw[if_neg (show¬(atP (oT r.Truck) r.length m).lo≥bE (oT r.Truck).way r.length m (oT r.Truck).holds from a3)];rfl
def ll(c:Convoy)(t:Truck):bq:=⟨xH ⟨De t false,c.Length⟩,xH ⟨De t true,c.Length⟩⟩
end Go.Proofs.Plain04
namespace Go.Proofs.YtafnhieaeejlcaaDoor
open Go Go.Ab
set_option linter.all false
def D2(t:Truck)(len m:Int):Int:=dz t len t.lo (m-t.start).toNat
def Ke(t:Truck)(len m:Int):Int:=dz t len t.hi (m-t.start).toNat
theorem qQ{t:Truck}{len:Int}(h:eZ len t)(m:Int):atP t len m=⟨D2 t len m,Ke t len m⟩:=by
 by_cases hm:t.start≤m
 ·have s1:=h.s1
  obtain⟨k,rfl⟩:∃k:Nat,m=k:=⟨m.toNat,by omega⟩
  rw[Dl h hm,uP];rfl
 ·unfold atP D2 Ke
  rw[if_pos (by omega),show(m-t.start).toNat=0 by omega];rfl
def IZ(t:Truck)(len m g:Int):Prop:=t.start≤m∧D2 t len m≤g∧g≤Ke t len m∧g<bE t.way len m t.holds
theorem ot{t:Truck}{len m:Int}(h:eZ len t)(hm:t.start≤m):Ke t len m≤bE t.way len m t.holds:=by
 have:=iX (pace:=t.hi) h.l1 h.ho h.so (by have:=h.p1;have:=h.p2;omega) (m-t.start).toNat
 rw[show t.start+(((m-t.start).toNat:Nat):Int)=m by omega]at this
 exact this
theorem sm{t:Truck}{len m:Int}(h:eZ len t):D2 t len m≤Ke t len m:=mu h _
theorem oW{t:Truck}{len m:Int}(h:eZ len t):0≤D2 t len m∧D2 t len m≤len:=dK h.l1 h.ho h.p1 _
theorem oO{t:Truck}{len m:Int}(h:eZ len t):(bW t len m).2=2↔∀g,¬IZ t len m g:=by
 unfold bW
 rw[qQ h]
 have hl:=sm (m:=m) h
 simp only
 split
 ·exact⟨fun _ g hg=>by have:=hg.1;omega,fun _=>rfl⟩
 ·have hs:=ot (m:=m) h (by omega)
  split
  ·exact⟨fun h0=>by simp at h0,fun h0=>absurd ⟨by omega,Int.le_refl _,hl,by omega⟩ (h0 (D2 t len m))⟩
  ·split
   ·exact⟨fun _ g hg=>by have:=hg.2.1;have:=hg.2.2.2;omega,fun _=>rfl⟩
   ·exact⟨fun h0=>by simp at h0,fun h0=>absurd ⟨by omega,Int.le_refl _,hl,by omega⟩ (h0 (D2 t len m))⟩
theorem vF{way len a b p:Int}(hab:a≤b):((gD way len ⟨a,b⟩).lo≤p∧p≤(gD way len ⟨a,b⟩).hi)↔∃g,a≤g∧g≤b∧p=br way len g:=by
 unfold gD br
 by_cases e:way=2
 ·simp only[if_pos e]
  exact⟨fun hh=>⟨len-p,by omega,by omega,by omega⟩,fun⟨g,h1,h2,h3⟩=>by omega⟩
 ·simp only[if_neg e]
  exact⟨fun hh=>⟨p,by omega,by omega,rfl⟩,fun⟨g,h1,h2,h3⟩=>by omega⟩
theorem oa{t:Truck}{len m p:Int}(h:eZ len t)(h2:(bW t len m).2≠2):((bW t len m).1.lo≤p∧p≤(bW t len m).1.hi)↔∃g,IZ t len m g∧p=br t.way len g:=by
 have hl:=sm (m:=m) h
 unfold bW at h2⊢
 rw[qQ h]at h2⊢
 simp only at h2⊢
 split at h2
 ·exact absurd rfl h2
 ·rename_i a1
  have hs:=ot (m:=m) h (by omega)
  rw[if_neg a1]
  split at h2
  ·rename_i a2
   rw[if_pos a2,vF hl]
   exact⟨fun⟨g,e1,e2,e3⟩=>⟨g,⟨by omega,e1,e2,by omega⟩,e3⟩,fun⟨g,e,e3⟩=>⟨g,e.2.1,e.2.2.1,e3⟩⟩
  ·rename_i a2
   split at h2
   ·exact absurd rfl h2
   ·rename_i a3
    rw[if_neg a2,if_neg a3,vF (by omega)]
    exact⟨fun⟨g,e1,e2,e3⟩=>⟨g,⟨by omega,e1,by omega,by omega⟩,e3⟩,fun⟨g,e,e3⟩=>⟨g,e.2.1,by have:=e.2.2.2;omega,e3⟩⟩
def xE(gap:Int)(t u:Truck)(len m:Int):Prop:=∃g h,IZ t len m g∧IZ u len m h∧br t.way len g-br u.way len h<gap∧br u.way len h-br t.way len g<gap
theorem vo{gap len m:Int}{t u:Truck}(ht:eZ len t)(hu:eZ len u)(hg:1≤gap):(gE gap (bW t len m) (bW u len m)).2.2=true↔xE gap t u len m:=by
 unfold gE
 by_cases h2:(bW t len m).2=2∨(bW u len m).2=2
 ·rw[if_pos h2]
  refine⟨fun h=>by simp at h,fun⟨g,h,a,b,_⟩=> ?_⟩
  rcases h2 with h2|h2
  ·exact absurd a ((oO ht).1 h2 g)
  ·exact absurd b ((oO hu).1 h2 h)
 ·rw[if_neg h2]
  have ht2:(bW t len m).2≠2:=fun h=>h2 (.inl h)
  have hu2:(bW u len m).2≠2:=fun h=>h2 (.inr h)
  simp only[Bool.and_eq_true,decide_eq_true_eq]
  constructor
  ·rintro ⟨a,b⟩
   obtain⟨g,hg1,hg2⟩:=(oa ht ht2 (p:=max (bW t len m).1.lo ((bW u len m).1.lo-gap+1))).1 ⟨by omega,a⟩
   obtain⟨h,hh1,hh2⟩:=(oa hu hu2 (p:=max (bW u len m).1.lo (max (bW t len m).1.lo ((bW u len m).1.lo-gap+1)-gap+1))).1 ⟨by omega,b⟩
   exact⟨g,h,hg1,hh1,by omega,by omega⟩
  ·rintro ⟨g,h,a,b,d,e⟩
   obtain⟨a1,a2⟩:=(oa ht ht2).2 ⟨g,a,rfl⟩
   obtain⟨b1,b2⟩:=(oa hu hu2).2 ⟨h,b,rfl⟩
   omega
theorem g6{α:Type}{f:Nat→Option α}:∀n k,fh f n k=none↔∀j,k≤j→j<k+n→f j=none
 |0,k=>by simp only[fh];exact⟨fun _ j a b=>by omega,fun _=>trivial⟩
 |n+1,k=>by
  simp only[fh]
  cases e:f k with
  |some a=>exact⟨fun h=>by simp at h,fun h=>by have:=h k (Nat.le_refl _) (by omega);rw[e]at this;cases this⟩
  |none=>
   rw[show(fh f n (k+1)=none)=_ from propext (g6 n (k+1))]
   refine⟨fun h j a b=> ?_,fun h j a b=>h j (by omega) (by omega)⟩
   by_cases ej:j=k
   ·rw[ej,e]
   ·exact h j (by omega) (by omega)
theorem qu{gap fails:Int}{t u:Truck}{len m:Int}:∀l,gC gap fails t u len m l=none↔∀b∈l,bI b.1+bI b.2≤fails→(iF gap t u len m b).2.2=false
 |[]=>by simp[gC]
 |b::l=>by
  simp only[gC,List.mem_cons,forall_eq_or_imp]
  split
  ·rw[qu l];exact⟨fun h=>⟨fun h' =>by omega,h⟩,fun h=>h.2⟩
  ·split
   ·rename_i h1 h2
    exact⟨fun h=>by simp at h,fun h=>by have:=h.1 (by omega);rw[h2]at this;cases this⟩
   ·rename_i h1 h2
    rw[qu l];exact⟨fun h=>⟨fun _=>by simpa using h2,h⟩,fun h=>h.2⟩
theorem GK(b:Bool×Bool):b∈ra:=by obtain⟨a,b⟩:=b;cases a<;>cases b<;>decide
def pH(c:Convoy)(i k:Nat)(b:Bool×Bool)(m:Int):Prop:=xE c.gap (bb (c.trucks.getD i default) b.1) (bb (c.trucks.getD k default) b.2) c.len m
theorem yI{c:Convoy}(hc:CR c){i k:Nat}(hi:i<c.trucks.length)(hk:k<c.trucks.length)(m:Int)(b:Bool×Bool):(iF c.gap (c.trucks.getD i default) (c.trucks.getD k default) c.len m b).2.2=true↔pH c i k b m:=
 vo ((hc.r i hi).free _) ((hc.r k hk).free _) hc.ok.g1
theorem ql{t:Truck}{len p:Int}(h:eZ len t)(hp:1≤p):∀k,dz t len p k≤dz (bb t true) len p k
 |0=>Int.le_refl _
 |k+1=>by
  have ih:=ql h hp k
  rw[eS h.l1 h.ho h.so hp k]
  have hf:=h.free true
  have:=eS (t:=bb t true) (len:=len) hf.l1 hf.ho hf.so hp k
  rw[this]
  have e:bE (bb t true).way len ((bb t true).start+k) (bb t true).holds=len:=rfl
  rw[e]
  have:=(fI (m:=t.start+k) h).2
  omega
theorem od{t:Truck}{len m:Int}(h:eZ len t)(b:Bool)(hm:t.start+cj t len t.lo≤m)(g:Int):¬IZ (bb t b) len m g:=by
 rintro ⟨h1,h2,h3,h4⟩
 have e1:=(eV h (Int.le_refl t.lo)).1
 have hf:=h.free b
 have hs:=(fI (m:=m) hf).2
 obtain⟨j,hj⟩:∃j,(m-t.start).toNat=cj t len t.lo+j:=⟨(m-t.start).toNat-cj t len t.lo,by omega⟩
 have e2:=mF h h.p1 e1 j
 have hb:=(oW (m:=m) hf).2
 have:D2 (bb t b) len m=len:=by
  cases b with
  |false=>show dz t len t.lo (m-t.start).toNat=len;rw[hj];exact e2
  |true=>
   have:=ql h h.p1 (m-t.start).toNat
   rw[hj,e2]at this
   have e:D2 (bb t true) len m=dz (bb t true) len t.lo (cj t len t.lo+j):=by rw[←hj];rfl
   omega
 omega
theorem we(f:Nat→Int):∀n k,k<n→f k≤dA f n
 |0,k,h=>by omega
 |n+1,k,h=>by
  simp only[dA]
  by_cases e:k=n
  ·subst e;omega
  ·have:=we f n k (by omega);omega
theorem GC{c:Convoy}(hc:CR c){i k:Nat}(hi:i<c.trucks.length)(b:Bool×Bool){m:Int}(hm:(eF c:Int)≤m):¬pH c i k b m:=by
 rintro ⟨g,h,h1,_⟩
 refine od (hc.r i hi) b.1 ?_ g h1
 have a:=we (fx c) _ i hi
 have e:=sq c i
 have:(eF c:Int)=dA (fx c) c.trucks.length:=by
  have:=(lS hc c.trucks.length (Nat.le_refl _)).1
  unfold eF;omega
 omega
theorem yx{c:Convoy}(hc:CR c){m i k:Nat}(hi:i<c.trucks.length)(hk:k<c.trucks.length):pQ c m i k=none↔∀b:Bool×Bool,bI b.1+bI b.2≤c.fails→¬pH c i k b m:=by
 unfold pQ nA
 rw[Option.map_eq_none_iff,qu]
 constructor
 ·intro h b hb hn
  have:=h b (GK b) hb
  rw[(yI hc hi hk m b).2 hn]at this;cases this
 ·intro h b _ hb
  have:=h b hb
  rw[←yI hc hi hk m b]at this
  simpa using this
theorem iD{c:Convoy}(hc:CR c):ck c=none↔∀i k,i<k→k<c.trucks.length→∀b:Bool×Bool,bI b.1+bI b.2≤c.fails→∀m:Int,¬pH c i k b m:=by
 unfold ck
 rw[g6]
 constructor
 ·intro h i k hik hk b hb m hn
  have hm0:0≤m:=by
   obtain⟨g,_,h1,_⟩:=hn
   have:=h1.1
   have s1:=((hc.r i (by omega)).free b.1).s1
   omega
  by_cases hm:(eF c:Int)≤m
  ·exact GC hc (by omega) b hm hn
  ·have h1:=h m.toNat (Nat.zero_le _) (by omega)
   unfold pO at h1
   have h2:=(g6 _ _).1 h1 i (Nat.zero_le _) (by omega)
   unfold qa at h2
   have h3:=(g6 _ _).1 h2 k (by omega) (by omega)
   have h4:=(yx hc (by omega) hk).1 h3 b hb
   rw[show((m.toNat:Nat):Int)=m by omega]at h4
   exact h4 hn
 ·intro h m _ _
  unfold pO
  rw[g6]
  intro i _ hi
  unfold qa
  rw[g6]
  intro k hk1 hk2
  exact(yx hc (by omega) (by omega)).2 fun b hb=>h i k (by omega) (by omega) b hb m
end Go.Proofs.YtafnhieaeejlcaaDoor
namespace Go.Proofs.Plain04
open Go
open Go.Ab hiding atP
open Go.Proofs.YtafnhieaeejlcaaDoor (dz ix eB bE cj br bb bW gy eN cY ic bK eW gD atP gone eZ A7 ng CR al bO cZ fC lB ph jr qQ D2 Ke uP sD wH AY sm oW ot)
set_option linter.all false
theorem Oo(n a b:Int):Ph n a b=some (decide (a≤n∧n≤b)):=by
 rw[JC];unfold Lf
 by_cases h:a≤n
 ·rw[JR (decide_eq_true h)];simp[h]
 ·rw[Gn (decide_eq_false h)];simp[h]
theorem Hk(n a b:Int):within n a b=some (decide (a≤n∧n≤b)):=by
 rw[yi];unfold uU
 by_cases h:a≤n
 ·rw[JR (decide_eq_true h)];simp[h]
 ·rw[Gn (decide_eq_false h)];simp[h]
theorem pq(c:Convoy)(k:Nat):(oC c).trucks.getD k default=oT (c.Trucks.getD k aK):=by
 show(c.Trucks.map oT).getD k (oT aK)=_
 rw[getD_map]
theorem Rz{c:Convoy}(h:al (oC c)=0){k:Nat}(hk:k<c.Trucks.length):eZ c.Length (oT (c.Trucks.getD k aK)):=by
 have:=(fC h).r k (by simpa[oC]using hk)
 rw[pq]at this;exact this
theorem OB{c:Convoy}(h:al (oC c)=0){k:Nat}(hk:k<c.Trucks.length)(b:Bool):eZ c.Length (oT (De (c.Trucks.getD k aK) b)):=by
 rw[zR];exact(Rz h hk).free b
theorem SS{c:Convoy}(h:al (oC c)=0):c.Trucks.length≤20:=by
 have:=(fC h).ok.n;simpa[oC]using this
end Go.Proofs.Plain04
namespace Go.Proofs.Plain04
open Go
open Go.Ab hiding atP
open Go.Proofs.YtafnhieaeejlcaaDoor (dz ix eB bE cj br bb bW gy eN cY ic bK eW gD atP gone eZ A7 ng CR al bO cZ fC lB D2 Ke sD sm oW ot IZ eS uQ dK fI bI)
set_option linter.all false
theorem kj{α:Type}(l:List α)(i j:Nat)(x d:α):(l.set i x).getD j d=if i=j∧j<l.length then x else l.getD j d:=by
 simp only[List.getD_eq_getElem?_getD,List.getElem?_set]
 split
 ·rename_i h;subst h
  split
  ·rename_i h2;simp[h2]
  ·rename_i h2;rw[if_neg (fun h=>h2 h.2),List.getElem?_eq_none (by omega)]
 ·rename_i h;rw[if_neg (fun hh=>h hh.1)]
end Go.Proofs.Plain04
namespace Go.Proofs.Plain04
open Go Go.Ab
open Go.Proofs.YtafnhieaeejlcaaDoor (lB Em)
set_option linter.all false
theorem xN(s:aQ){most:Int}(h0:0≤most)(h1:most≤100):Ok (fun r=>(r.2.Trucks.length:Int)≤most∧∀t∈r.2.Trucks,t.Holds.length≤2) (kd s most):=by
 rw[pN]
 refine Ok.bind (pw s (by omega) (by omega) (by omega) (by omega)) fun r hr=> ?_
 refine Ok.bind (eM _ (by omega)) fun r2 hr2=> ?_
 refine Ok.bind (eM _ (by rw[bk (by omega) (by omega)];omega)) fun r3 hr3=> ?_
 rw[bk (n:=most+1) (by omega) (by omega)]at hr3
 refine Ok.rounds (fun v=>0≤v.1.2.2.2.1∧v.1.2.2.2.1≤most∧(v.2.2.1.2.2.2.1.length:Int)+v.1.2.2.2.1≤most∧(∀t∈v.2.2.1.2.2.2.1,t.Holds.length≤2)∧0≤v.2.2.1.1∧v.2.2.1.1≤1000000) (fun v=>v.1.2.2.2.1.toNat) ?_ ?_ ?_
 ·show r3.2.toNat<18446744073709551616
  omega
 ·simp;omega
 ·rintro ⟨⟨_,_,_,i,_⟩,⟨w,_⟩,⟨len,gap,fails,ts,_⟩,_⟩ kn hi' hk
  simp only at hi'
  obtain⟨a1,a2,a3,a4,a5,a6⟩:=hi'
  have e:bG (i-1)=i-1:=bk (by omega) (by omega)
  refine Ok.ite (fun hlt=> ?_) fun _=>Ok.some ⟨by simp only;omega,a4⟩
  simp only[decide_eq_true_eq]at hlt
  refine Ok.bind (wR _ a5 a6 (by omega) (by omega)) fun r4 hr4=> ?_
  refine Ok.bind (OA _ (by omega)) fun r5 _=> ?_
  refine Ok.ite (fun _=> ?_) fun _=> ?_
  all_goals
   refine Ok.rounds (fun v=>0≤v.1.2.2.2.2.1∧v.1.2.2.2.2.1≤12∧v.2.2.1.1=len∧v.2.2.1.2.2.2.1=ts∧v.2.2.2.1.2.2.2.2.1.length≤2) (fun v=>(12-v.1.2.2.2.2.1).toNat) ?_ ?_ ?_
   ·show(12-(0:Int)).toNat<18446744073709551616
    omega
   ·simp;try omega
   ·rintro ⟨⟨_,_,_,_,n,_⟩,⟨w2,_⟩,⟨len2,gap2,fails2,ts2,_⟩,⟨way,st,lo,hi,hs,_⟩,_⟩ kn2 hi2 hk2
    simp only at hi2
    obtain⟨b1,b2,rfl,rfl,b5⟩:=hi2
    have e2:bG (n+1)=n+1:=bk (by omega) (by omega)
    refine Ok.ite (fun hc=> ?_) fun hc=>hk _ ?_ ?_
    ·simp only[decide_eq_true_eq]at hc
     refine Ok.bind (eM _ (by rw[e2,bk (by omega) (by omega)];omega)) fun r6 hr6=> ?_
     refine Ok.aP (fa (by simp;omega) (by omega)) (Ok.aP (fa (by simp;omega) (by omega)) ?_)
     rw[oZ]
     refine Ok.bind (Ok.some (P:=fun _=>True) trivial) fun r7 _=> ?_
     refine Ok.ite (fun _=>hk _ ?_ ?_) fun _=>hk2 _ ?_ ?_
     ·simp only[e,List.nil_append,List.length_append,List.length_singleton]
      refine⟨by omega,by omega,by push_cast;omega,fun t ht=> ?_,a5,a6⟩
      rcases List.mem_append.1 ht with ht|ht
      ·exact a4 t ht
      ·simp only[List.mem_singleton]at ht;subst ht;exact b5
     ·simp[e];omega
     ·simp[e2];omega
     ·simp[e2];omega
    ·simp only[e]
     exact⟨by omega,by omega,by omega,a4,a5,a6⟩
    ·simp[e];omega
theorem re{c:Convoy}(h1:c.Trucks.length≤25)(h2:∀t∈c.Trucks,t.Holds.length≤12):gx c=true:=by
 simp only[gx,Bool.and_eq_true,decide_eq_true_eq,List.all_eq_true]
 exact⟨h1,h2⟩
theorem uZ{c:Convoy}(h:gx c=true):sr c=true:=by
 simp only[gx,sr,Bool.and_eq_true,decide_eq_true_eq,List.all_eq_true]at h⊢
 exact⟨by omega,fun t ht=>by have:=h.2 t ht;omega⟩
theorem Gv{c:Convoy}(h:lB (oC c)=false):gx c=true:=by
 obtain⟨h1,h2⟩:=Em h
 refine re (by simpa[oC]using h1) fun t ht=> ?_
 obtain⟨k,hk,rfl⟩:=List.mem_iff_getElem.1 ht
 have h3:=h2 k (by simpa[oC]using hk)
 simp only[oC]at h3
 rw[show(default:Go.Proofs.YtafnhieaeejlcaaDoor.Truck)=oT aK from rfl,getD_map,List.getD_eq_getElem?_getD,List.getElem?_eq_getElem hk]at h3
 simpa[oT]using h3
theorem sX(c:Convoy){nums:List Int}(hn:nums.length≤9223372036854775807):kS c nums=some true:=by
 suffices h:Ok (fun b=>b=true) (kS c nums) by
  obtain⟨b,h1,h2⟩:=h
  rw[h1,h2]
 rw[oG]
 refine Ok.bind (P:=fun b=>b=lB (oC c)) (by rw[DA];exact Ok.some rfl) fun b hb=> ?_
 refine Ok.ite (fun _=> ?_) fun hf=> ?_
 ·rw[nz];exact Ok.bind (Ok.some (P:=fun b=>b=true) rfl) fun b hb=>Ok.some hb
 subst hb
 have hc:=Gv hf
 refine Ok.bind (wU hn) fun r3 _=> ?_
 refine Ok.bind (tZ _ (by omega) (by omega)) fun r4 h4=> ?_
 refine Ok.bind (xN _ (by omega) (by omega)) fun r5 h5=> ?_
 have hc4:gx r4.2=true:=re (by omega) fun t ht=>by have:=h4.2 t ht;omega
 have hc5:gx r5.2=true:=re (by omega) fun t ht=>by have:=h5.2 t ht;omega
 have hall:∀x∈([c,r4.2,r5.2]:List Convoy),gx x=true:=fun x hx=>by
  simp only[List.mem_cons,List.not_mem_nil,or_false]at hx
  rcases hx with rfl|rfl|rfl<;>assumption
 refine Ok.rounds (fun v=>0≤v.1.2.1∧v.1.2.1≤3) (fun v=>(3-v.1.2.1).toNat) ?_ ?_ ?_
 ·show(3-(0:Int)).toNat<18446744073709551616
  omega
 ·simp
 ·rintro ⟨⟨_,i,_⟩,_⟩ kn hi hk
  simp only at hi
  refine Ok.ite (fun hlt=> ?_) fun _=> ?_
  ·simp only[decide_eq_true_eq]at hlt
   have hlt' :i.toNat<([c,r4.2,r5.2]:List Convoy).length:=by simp at hlt⊢;omega
   have hx:=hall (([c,r4.2,r5.2]:List Convoy).getD i.toNat cR) (by rw[List.getD_eq_getElem?_getD,List.getElem?_eq_getElem hlt'];exact List.getElem_mem _)
   generalize hx0:([c,r4.2,r5.2]:List Convoy).getD i.toNat cR=x at hx
   have e:bG (i+1)=i+1:=bk (by omega) (by omega)
   have hb:(decide (0≤i)&&decide (i<((([c,r4.2,r5.2]:List Convoy).length:Nat):Int)))=true:=by simp only[Bool.and_eq_true,decide_eq_true_eq];exact⟨hi.1,hlt⟩
   refine Ok.aP hb (Ok.aP (by simpa using hlt') ?_)
   refine Ok.bind (P:=fun y=>y=x) (by rw[rD];exact Ok.aP hx (Ok.some rfl)) fun y hy=> ?_
   subst hy
   refine Ok.bind (P:=fun m=>m=nv y) (by rw[zJ];exact Ok.some rfl) fun m hm=> ?_
   refine Ok.aP hb (Ok.aP (by simpa using hlt') ?_)
   refine Ok.bind (P:=fun m=>m=nv y) (by rw[oZ];exact Ok.some rfl) fun m2 hm2=> ?_
   subst hm hm2
   refine Ok.ite (fun h=>by simp at h) fun _=>Ok.ite (fun h=>by simp at h) fun _=> ?_
   refine Ok.aP hb (Ok.aP (by simpa using hlt') ?_)
   refine Ok.bind (P:=fun b=>b=true) (by rw[kG];exact Ok.aP (uZ hx) (Ok.some (by simp))) fun b hb2=> ?_
   subst hb2
   refine Ok.ite (fun h=>by simp at h) fun _=>hk _ ?_ ?_
   ·simp only[e];simp at hlt;omega
   ·simp only[e];simp at hlt;omega
  ·rw[nz];exact Ok.bind (Ok.some (P:=fun b=>b=true) rfl) fun b hb=>Ok.some hb
def nH(h:Go.Proofs.YtafnhieaeejlcaaDoor.Hold):Hold:=⟨h.a,h.u⟩
def nT(t:Go.Proofs.YtafnhieaeejlcaaDoor.Truck):Truck:=⟨t.way,t.start,⟨t.lo,t.hi⟩,t.holds.map nH⟩
def nC(c:Go.Proofs.YtafnhieaeejlcaaDoor.Convoy):Convoy:=⟨c.len,c.gap,c.fails,c.trucks.map nT⟩
theorem Pt(t:Go.Proofs.YtafnhieaeejlcaaDoor.Truck):oT (nT t)=t:=by
 obtain⟨a,b,c,d,hs⟩:=t
 simp only[oT,nT,List.map_map]
 have:hs.map (oH∘nH)=hs:=(List.map_congr_left fun x _=>rfl).trans (List.map_id hs)
 rw[this]
theorem L1(c:Go.Proofs.YtafnhieaeejlcaaDoor.Convoy):oC (nC c)=c:=by
 obtain⟨a,b,d,ts⟩:=c
 simp only[oC,nC,List.map_map]
 have:ts.map (oT∘nT)=ts:=(List.map_congr_left fun x _=>Pt x).trans (List.map_id ts)
 rw[this]
theorem k4(c:Go.Proofs.YtafnhieaeejlcaaDoor.Convoy){nums:List Int}(hn:nums.length≤9223372036854775807):au Go.Proofs.YtafnhieaeejlcaaDoor.cK 4 [.agg (Go.Proofs.YtafnhieaeejlcaaDoor.aI c),lz 1 fy nums] (.bool true):=by
 have h:=bF (Z:=Go.Proofs.YtafnhieaeejlcaaDoor.ao) (ats:=[.Convoy, .sl (.int .i64)]) (ts:=[.bool]) (E:=E4) (fn:=Tryd.f4) (c:=aU Tryd.f4) Tryd.func4 (by kernel_rfl) (by kernel_rfl) (by kernel_rfl) (by kernel_rfl) rfl ((e4 cH (nC c) nums).trans ((oG (nC c) nums).symm.trans (sX (nC c) hn))) zh zh
 have e:I.av zh (bY [.Convoy, .sl (.int .i64)] (nC c,nums,()))=[.agg (Go.Proofs.YtafnhieaeejlcaaDoor.aI c),lz 1 fy nums]:=by
  show[(fW .Convoy (nC c)).b8 zh,lz 1 fy nums]=_
  rw[sR,L1]
 rw[e]at h
 exact h
end Go.Proofs.Plain04
namespace Go.Proofs.Plain04
open Go Go.Ab
open Go.Proofs.YtafnhieaeejlcaaDoor (br ng al bO cX cZ fc ck jn)
set_option linter.all false
structure Qk (len:Int) (n:Int) (t:Truck):Prop where
 way:t.Way=1∨t.Way=2
 s1:0≤t.Start
 s2:t.Start≤199
 p1:5≤t.Pace.Lo
 p2:t.Pace.Lo≤t.Pace.Hi
 p3:t.Pace.Hi≤32
 n:(t.Holds.length:Int)≤n
 h:∀h∈t.Holds.map oH,1≤h.a∧h.a≤len-1∧0≤h.u∧h.u≤149
 so:ng t.Way len (t.Holds.map oH)
structure SN (most:Int) (c:Convoy):Prop where
 l1:20≤c.Length
 l2:c.Length≤400
 g1:1≤c.Gap
 g2:c.Gap≤100
 f1:0≤c.Fails
 f2:c.Fails≤2
 n:(c.Trucks.length:Int)≤most
 t:∀t∈c.Trucks,Qk c.Length 3 t
 g:∀t∈c.Trucks,2*t.Pace.Hi≤c.Gap
abbrev RS:=Go.Proofs.YtafnhieaeejlcaaDoor.Convoy
theorem nq{c:Go.Proofs.YtafnhieaeejlcaaDoor.Convoy}:∀{ts:List OD},(∀t∈ts,bO c t=0)→cX c ts=0
 |[],_=>rfl
 |t::ts,h=>by
  have a:=h t (List.mem_cons_self ..)
  unfold cX
  rw[if_neg (fun hh=>hh a)]
  exact nq fun x hx=>h x (List.mem_cons_of_mem _ hx)
theorem wP{c:RS}(l1:1≤c.len)(l2:c.len≤100000)(g1:1≤c.gap)(g2:c.gap≤100000)(f1:0≤c.fails)(f2:c.fails≤20)(n:c.trucks.length≤20)(h:∀t∈c.trucks,bO c t=0):al c=0:=by
 unfold al
 rw[if_neg (by omega),if_neg (by omega)]
 exact nq h
theorem rK{way len:Int}:∀{hs:List Go.Proofs.YtafnhieaeejlcaaDoor.Hold} {p:Option Int},cZ way len p hs≠7
 |[],_=>by unfold cZ;omega
 |h::hs,p=>by
  have ih:=rK (way:=way) (len:=len) (hs:=hs) (p:=some (br way len h.a))
  rw[fc]
  split
  ·omega
  ·split
   ·split
    ·omega
    ·exact ih
   ·exact ih
theorem Ad(c:Go.Proofs.YtafnhieaeejlcaaDoor.Convoy)(t:OD):bO c t≠7:=by
 unfold bO
 split;·omega
 split;·omega
 split;·omega
 split;·omega
 split;·omega
 split;·omega
 exact rK
theorem pR(c:Go.Proofs.YtafnhieaeejlcaaDoor.Convoy):∀ts:List OD,cX c ts≠7
 |[]=>by unfold cX;omega
 |t::ts=>by
  unfold cX
  split
  ·exact Ad c t
  ·exact pR c ts
theorem Lw(c:Go.Proofs.YtafnhieaeejlcaaDoor.Convoy):al c≠7:=by
 unfold al
 split;·omega
 split;·omega
 exact pR c _
def Acc(c:Convoy):Prop:=al (oC c)=0∧ck (oC c)=none
theorem CV{c:Convoy}(h:(nv c).2=7):Acc c:=by
 unfold nv at h
 simp only at h
 by_cases h0:al (oC c)=0
 ·refine⟨h0, ?_⟩
  rw[if_pos h0]at h
  cases hm:ck (oC c)with
  |none=>rfl
  |some x=>rw[hm]at h;simp at h
 ·rw[if_neg h0]at h
  exact absurd h (Lw _)
end Go.Proofs.Plain04
namespace Go.Proofs.Plain04
open Go
open Go.Ab hiding atP
open Go.Proofs.YtafnhieaeejlcaaDoor (dz ix eB bE cj br bb bW gy eN gD atP gone eZ CR al fC D2 Ke sD sm oW ot IZ bI oO oa vF qQ ck)
set_option linter.all false
end Go.Proofs.Plain04
namespace Go.Proofs.Plain04
open Go Go.Ab
open Go.Proofs.YtafnhieaeejlcaaDoor (br gy eZ CR al fC D2 Ke oW IZ bI ck iD pH xE bO dA eF)
set_option linter.all false
theorem Hp{c:Convoy}(h:Acc c):(nv c).2=7:=by
 unfold nv
 simp only[if_pos h.1,h.2];rfl
end Go.Proofs.Plain04
namespace Go.Proofs.Plain04
open Go Go.Ab
open Go.Proofs.YtafnhieaeejlcaaDoor (ao)
set_option linter.all false
set_option maxRecDepth 100000
noncomputable section
end
end Go.Proofs.Plain04
namespace Go.Proofs.Plain04
open Go Go.Ab
open Go.Proofs.YtafnhieaeejlcaaDoor (cj br bb bW eZ CR al bO cX fA fC bI IZ ck iD pH xE vo gE jd od oO A1 lB OT)
set_option linter.all false
theorem sn{c:Convoy}{t u:Truck}(ht:eZ c.Length (oT t))(hu:eZ c.Length (oT u)){gap fails m:Int}(g0:0≤gap)(g1:gap≤1000000)(m0: -1000000≤m)(m1:m≤1000000):
 ui ⟨gap,fails⟩ (xH ⟨t,c.Length⟩) (xH ⟨u,c.Length⟩) m=some (gE gap (bW (oT t) c.Length m) (bW (oT u) c.Length m)):=by
 rw[CM];apply ok_eq
 have l2:=ht.l2
 have b1:=jd (m:=m) ht
 have b2:=jd (m:=m) hu
 refine Ok.beq (rG (r:=⟨t,c.Length⟩) ht m0 m1) (Ok.beq (rG (r:=⟨u,c.Length⟩) hu m0 m1) ?_)
 simp only
 unfold gE
 generalize bW (oT t) c.Length m=x at*
 generalize bW (oT u) c.Length m=y at*
 by_cases h1:x.2=2
 ·rw[if_pos (.inl h1)];exact Ok.yes (by simp[h1]) (Ok.some rfl)
 by_cases h2:y.2=2
 ·rw[if_pos (.inr h2)];exact Ok.no (by simp[h1]) (Ok.yes (by simp[h2]) (Ok.some rfl))
 rw[if_neg (fun hh=>hh.elim h1 h2)]
 refine Ok.no (by simp[h1]) (Ok.no (by simp[h2]) ?_)
 simp only[nS]
 have e1:bG (y.1.lo-gap)=y.1.lo-gap:=bk (by omega) (by omega)
 have e2:bG (y.1.lo-gap+1)=y.1.lo-gap+1:=bk (by omega) (by omega)
 simp only[e1,e2]
 have e3:bG (max x.1.lo (y.1.lo-gap+1)-gap)=max x.1.lo (y.1.lo-gap+1)-gap:=bk (by omega) (by omega)
 have e4:bG (max x.1.lo (y.1.lo-gap+1)-gap+1)=max x.1.lo (y.1.lo-gap+1)-gap+1:=bk (by omega) (by omega)
 simp only[e3,e4]
 by_cases h3:max x.1.lo (y.1.lo-gap+1)≤x.1.hi
 ·exact Ok.yes (decide_eq_true h3) (Ok.some (by simp[h3]))
 ·exact Ok.no (decide_eq_false h3) (Ok.some (by simp[h3]))
def lK(k:Nat):Bool×Bool:=if k=0 then(false,false)else if k=1 then(true,false)else if k=2 then(false,true)else(true,true)
theorem G9(b:Bool×Bool):∃k,k<4∧lK k=b:=by
 obtain⟨x,y⟩:=b
 cases x<;>cases y
 ·exact⟨0,by omega,rfl⟩
 ·exact⟨2,by omega,rfl⟩
 ·exact⟨1,by omega,rfl⟩
 ·exact⟨3,by omega,rfl⟩
def zp(gap fails:Int)(t u:OD)(len m:Int):Prop:=∃b:Bool×Bool,bI b.1+bI b.2≤fails∧xE gap (bb t b.1) (bb u b.2) len m
theorem Dv{c:Convoy}{t u:Truck}(ht:eZ c.Length (oT t))(hu:eZ c.Length (oT u)){gap fails m:Int}(g0:1≤gap)(g1:gap≤1000000)(m0: -1000000≤m)(m1:m≤1000000):
 Ok (fun r=>r.2=true↔zp gap fails (oT t) (oT u) c.Length m) (qZ ⟨gap,fails⟩ (ll c t) (ll c u) m):=by
 rw[xk]
 have hR:∀{x:Truck},eZ c.Length (oT x)→∀b,eZ c.Length (oT (De x b)):=fun h b=>by rw[zR];exact h.free b
 have near:∀b:Bool×Bool,(gE gap (bW (oT (De t b.1)) c.Length m) (bW (oT (De u b.2)) c.Length m)).2.2=true↔xE gap (bb (oT t) b.1) (bb (oT u) b.2) c.Length m:=fun b=>by
  rw[vo (hR ht b.1) (hR hu b.2) g0,zR,zR]
 refine Ok.rounds (fun v=>∃k:Nat,k≤4∧v.1.2.2.2.2.1=(k:Int)∧∀j,j<k→¬(bI (lK j).1+bI (lK j).2≤fails∧xE gap (bb (oT t) (lK j).1) (bb (oT u) (lK j).2) c.Length m)) (fun v=>(4-v.1.2.2.2.2.1).toNat) ?_ ?_ ?_
 ·show(4-(0:Int)).toNat<18446744073709551616
  omega
 ·exact⟨0,by omega,rfl,fun j hj=>absurd hj (Nat.not_lt_zero _)⟩
 rintro ⟨⟨_,_,_,_,i,_⟩,⟨a1,a2,a3,a4,a5,a6,a7,_⟩,_⟩ kn ⟨k,k1,k2,k3⟩ hk
 simp only at k2⊢
 subst k2
 have ek:bG ((k:Int)+1)=((k+1:Nat):Int):=by rw[bk (by omega) (by omega)];push_cast;rfl
 have nxt:k<4→¬(bI (lK k).1+bI (lK k).2≤fails∧xE gap (bb (oT t) (lK k).1) (bb (oT u) (lK k).2) c.Length m)→Ok (fun r:bd×Bool=>r.2=true↔zp gap fails (oT t) (oT u) c.Length m) (kn (((),(),(),(),bG ((k:Int)+1),()),((a1,a2,a3,a4,a5,a6,a7,()),()))):=fun hk4 hno=>
  hk _ ⟨k+1,by omega,ek,fun j hj=>by
   by_cases e:j=k
   ·rw[e];exact hno
   ·exact k3 j (by omega)⟩ (by simp only[ek];omega)
 have A8:∀b:Bool×Bool,bI b.1+bI b.2≤fails→(gE gap (bW (oT (De t b.1)) c.Length m) (bW (oT (De u b.2)) c.Length m)).2.2=true→∀x:bd,Ok (fun r:bd×Bool=>r.2=true↔zp gap fails (oT t) (oT u) c.Length m) (some (x,true)):=fun b h1 h2 x=>
  Ok.some ⟨fun _=>⟨b,h1,(near b).1 h2⟩,fun _=>rfl⟩
 refine Ok.ite (fun hlt=> ?_) fun hge=>Ok.some ?_
 ·have hlt:k<4:=by have:=of_decide_eq_true hlt;omega
  obtain rfl|rfl|rfl|rfl:k=0∨k=1∨k=2∨k=3:=by omega
  ·refine Ok.yes rfl ?_
   rw[bk (n:=0+0) (by omega) (by omega)]
   refine Ok.ite (fun h=>nxt (by omega) fun hh=>by have h' :_>fails:=of_decide_eq_true h;have:=hh.1;simp[lK,bI]at this;omega) fun h=> ?_
   refine Ok.beq (sn (hR ht false) (hR hu false) (by omega) g1 m0 m1) (Ok.ite (fun h2=>A8 (false,false) (by have h' :¬_>fails:=of_decide_eq_false h;simp[bI];omega) h2 _) fun h2=>nxt (by omega) fun hh=> ?_)
   have:=(near (false,false)).2 hh.2
   rw[this]at h2;cases h2
  ·refine Ok.no rfl (Ok.yes rfl ?_)
   rw[bk (n:=1+0) (by omega) (by omega)]
   refine Ok.ite (fun h=>nxt (by omega) fun hh=>by have h' :_>fails:=of_decide_eq_true h;have:=hh.1;simp[lK,bI]at this;omega) fun h=> ?_
   refine Ok.beq (sn (hR ht true) (hR hu false) (by omega) g1 m0 m1) (Ok.ite (fun h2=>A8 (true,false) (by have h' :¬_>fails:=of_decide_eq_false h;simp[bI];omega) h2 _) fun h2=>nxt (by omega) fun hh=> ?_)
   have:=(near (true,false)).2 hh.2
   rw[this]at h2;cases h2
  ·refine Ok.no rfl (Ok.no rfl (Ok.yes rfl ?_))
   rw[bk (n:=0+1) (by omega) (by omega)]
   refine Ok.ite (fun h=>nxt (by omega) fun hh=>by have h' :_>fails:=of_decide_eq_true h;have:=hh.1;simp[lK,bI]at this;omega) fun h=> ?_
   refine Ok.beq (sn (hR ht false) (hR hu true) (by omega) g1 m0 m1) (Ok.ite (fun h2=>A8 (false,true) (by have h' :¬_>fails:=of_decide_eq_false h;simp[bI];omega) h2 _) fun h2=>nxt (by omega) fun hh=> ?_)
   have:=(near (false,true)).2 hh.2
   rw[this]at h2;cases h2
  ·refine Ok.no rfl (Ok.no rfl (Ok.no rfl (Ok.yes rfl ?_)))
   rw[bk (n:=1+1) (by omega) (by omega)]
   refine Ok.ite (fun h=>nxt (by omega) fun hh=>by have h' :_>fails:=of_decide_eq_true h;have:=hh.1;simp[lK,bI]at this;omega) fun h=> ?_
   refine Ok.beq (sn (hR ht true) (hR hu true) (by omega) g1 m0 m1) (Ok.ite (fun h2=>A8 (true,true) (by have h' :¬_>fails:=of_decide_eq_false h;simp[bI];omega) h2 _) fun h2=>nxt (by omega) fun hh=> ?_)
   have:=(near (true,true)).2 hh.2
   rw[this]at h2;cases h2
 ·have hge:¬k<4:=by have:=of_decide_eq_false hge;omega
  refine⟨fun h=>(by cases h),fun⟨b,h1,h2⟩=> ?_⟩
  obtain⟨j,hj,rfl⟩:=G9 b
  exact absurd ⟨h1,h2⟩ (k3 j (by omega))
def As(gap fails:Int)(t u:OD)(len:Int):Prop:=∀m,¬zp gap fails t u len m
theorem uw(t:OD)(b:Bool):(bb t b).start=t.start:=by cases b<;>rfl
theorem tH{gap fails len m:Int}{t u:OD}(ht:eZ len t)(hu:eZ len u)(h:zp gap fails t u len m):t.start≤m∧u.start≤m∧m<t.start+cj t len t.lo∧m<u.start+cj u len u.lo:=by
 obtain⟨b,_,g,g',h1,h2,_⟩:=h
 have a1:t.start≤m:=by have:=h1.1;rw[uw]at this;exact this
 have a2:u.start≤m:=by have:=h2.1;rw[uw]at this;exact this
 refine⟨a1,a2, ?_, ?_⟩
 ·exact Classical.byContradiction fun hn=>od ht b.1 (by omega) g h1
 ·exact Classical.byContradiction fun hn=>od hu b.2 (by omega) g' h2
theorem J1{c:Convoy}{t u:Truck}(ht:eZ c.Length (oT t))(hu:eZ c.Length (oT u)){gap fails:Int}(g0:1≤gap)(g1:gap≤1000000):
 Ok (fun b=>b=true↔As gap fails (oT t) (oT u) c.Length) (apart ⟨gap,fails⟩ (ll c t) (ll c u)):=by
 rw[CD]
 have s1:0≤t.Start:=ht.s1
 have s2:t.Start≤10000:=ht.s2
 have s3:0≤u.Start:=hu.s1
 have s4:u.Start≤10000:=hu.s2
 have k1:=qY (r:=⟨t,c.Length⟩) ht
 have k2:=qY (r:=⟨u,c.Length⟩) hu
 simp only at k1 k2
 have ef:∀x:Truck,De x false=x:=fun _=>rfl
 refine Ok.rounds (fun v=>max t.Start u.Start≤v.1.2.2.1∧v.1.2.2.1≤100000∧∀m,m<v.1.2.2.1→¬zp gap fails (oT t) (oT u) c.Length m) (fun v=>(100000-v.1.2.2.1).toNat) ?_ ?_ ?_
 ·show(100000-max t.Start u.Start).toNat<18446744073709551616
  omega
 ·refine⟨Int.le_refl _,by show max t.Start u.Start≤100000;omega,fun m hm hn=> ?_⟩
  obtain⟨a1,a2,_⟩:=tH ht hu hn
  change m<max t.Start u.Start at hm
  change t.Start≤m at a1
  change u.Start≤m at a2
  omega
 rintro ⟨⟨_,_,m,_⟩,_⟩ kn ⟨i1,i2,i3⟩ hk
 simp only at i1 i2 i3⊢
 refine Ok.beq (oD (r:=⟨t,c.Length⟩) ht) (Ok.beq (oD (r:=⟨u,c.Length⟩) hu) (Ok.ite (fun hlt=> ?_) fun hge=>Ok.some ?_))
 ·have hlt:m≤min (t.Start+(jo t c.Length:Int)) (u.Start+(jo u c.Length:Int)):=of_decide_eq_true hlt
  have em:bG (m+1)=m+1:=bk (by omega) (by omega)
  refine Ok.bind (Dv ht hu (fails:=fails) g0 g1 (by omega) (by omega)) fun r3 h3=>Ok.ite (fun h=>Ok.some ?_) fun h=>hk _ ?_ ?_
  ·exact⟨fun hh=>(by cases hh),fun hh=>absurd (h3.1 h) (hh m)⟩
  ·simp only[em]
   refine⟨by omega,by omega,fun m' hm' => ?_⟩
   by_cases e:m' =m
   ·rw[e];intro hn;rw[h3.2 hn]at h;cases h
   ·exact i3 m' (by omega)
  ·simp only[em];omega
 ·have hge:¬m≤min (t.Start+(jo t c.Length:Int)) (u.Start+(jo u c.Length:Int)):=of_decide_eq_false hge
  refine⟨fun _ m' hn=> ?_,fun _=>rfl⟩
  obtain⟨_,_,a3,a4⟩:=tH ht hu hn
  change m' <t.Start+(jo t c.Length:Int)at a3
  change m' <u.Start+(jo u c.Length:Int)at a4
  exact i3 m' (by omega) hn
theorem DZ{c:Convoy}(h:al (oC c)=0):sC c=some ((List.range c.Trucks.length).map fun i=>ll c (c.Trucks.getD i aK)):=by
 rw[vY];apply ok_eq
 have hf:=SS h
 refine Ok.rounds (fun v=>∃k:Nat,k≤c.Trucks.length∧v.1.2.2.1=(k:Int)∧v.1.2.1=(List.range k).map fun i=>ll c (c.Trucks.getD i aK)) (fun v=>((c.Trucks.length:Int)-v.1.2.2.1).toNat) ?_ ?_ ?_
 ·show((c.Trucks.length:Int)-0).toNat<18446744073709551616
  omega
 ·exact⟨0,Nat.zero_le _,rfl,rfl⟩
 rintro ⟨⟨_,out,i,_⟩,_⟩ kn ⟨k,k1,k2,k3⟩ hk
 simp only at k2 k3⊢
 subst k2 k3
 have ek:bG ((k:Int)+1)=((k+1:Nat):Int):=by rw[bk (by omega) (by omega)];push_cast;rfl
 refine Ok.ite (fun hlt=> ?_) fun hge=>Ok.some ?_
 ·have hlt:k<c.Trucks.length:=by have:=of_decide_eq_true hlt;omega
  refine Ok.beq (x4 hlt false) (Ok.beq (vT (r:=⟨De (c.Trucks.getD k aK) false,c.Length⟩) (OB h hlt false)) (Ok.beq (x4 hlt true) (Ok.beq (vT (r:=⟨De (c.Trucks.getD k aK) true,c.Length⟩) (OB h hlt true)) (Ok.aP (fa (by simp;omega) (by omega)) (hk _ ⟨k+1,by omega,ek, ?_⟩ (by simp only[ek];omega))))))
  exact mK (fun i=>ll c (c.Trucks.getD i aK)) k
 ·have hge:k=c.Trucks.length:=by have:=of_decide_eq_false hge;omega
  rw[hge]
theorem C0{c:RS}(h:al c=0):cX c c.trucks=0:=by
 unfold al at h
 split at h;·cases h
 split at h;·cases h
 exact h
end Go.Proofs.Plain04
namespace Go.Proofs.Plain04
open Go Go.Ab
open Go.Proofs.YtafnhieaeejlcaaDoor (ao)
set_option linter.all false
set_option maxRecDepth 100000
noncomputable section
def xU(i:Int)(c_Length:Int)(c_Gap:Int)(c_Fails:Int)(c_Trucks:List Truck)(kn_:Int→Int→Int→Int→(List Truck)→Option Convoy):Option Convoy:=
 bif (decide (i<(c_Trucks.length:Int)))then
 aP (decide (0≤i)&&decide (i<(c_Trucks.length:Int)))<|
 aP (decide (i.toNat<c_Trucks.length))<|
 aP (fV (([]:List Hold).length+((c_Trucks.getD i.toNat aK).Holds).length) 16)<|
 aP (decide (0≤i)&&decide (i<(c_Trucks.length:Int)))<|
 aP (decide (i.toNat<c_Trucks.length))<|
 aP (decide (i.toNat<c_Trucks.length))<|
 kn_ (bG (i+1)) c_Length c_Gap c_Fails (c_Trucks.set i.toNat (⟨(c_Trucks.getD i.toNat aK).Way,(c_Trucks.getD i.toNat aK).Start,(c_Trucks.getD i.toNat aK).Pace,(([]:List Hold)++(c_Trucks.getD i.toNat aK).Holds)⟩:Truck))
 else
 some (⟨c_Length,c_Gap,c_Fails,c_Trucks⟩:Convoy)
def nr(it:It Convoy)(c:Convoy):Option Convoy:=
 aP (fV (([]:List Truck).length+c.Trucks.length) 56)<|
 it _ (fun(v_0:(Unit×Unit×Int×Unit)×((Int×Int×Int×(List Truck)×Unit)×Unit)) kn=>xU v_0.1.2.2.1 v_0.2.1.1 v_0.2.1.2.1 v_0.2.1.2.2.1 v_0.2.1.2.2.2.1 (fun y0 y1 y2 y3 y4=>kn (((),(),y0,()),((y1,y2,y3,y4,()),())))) (((),(),0,()),((c.Length,c.Gap,c.Fails,(([]:List Truck)++c.Trucks),()),()))
def gQ:Convoy→Option Convoy:=ij (fun c=>nr cH c)
theorem pJ(c:Convoy):gQ c=nr cH c:=by unfold gQ;rw[bT]
def Sb:du ao:=⟨⟨30,[],[],[],[],[],[],[],[],[],[],[],[],true⟩,[(3,⟨⟨[(1, .bx 1 0),(2, .bx 2 0),(3, .v (.int .i64))],[(1,[.v (.int .i64), .v (.int .i64), .v (.int .i64), .os 4 50 .Truck])]⟩,[],[2],[]⟩)]⟩
theorem S6(it:It Convoy)(c:Convoy):AB .Convoy 3 50 .Truck it Sb (aU Tryd.f20) Tryd.f20.results.toList (bY [.Convoy] (c,()))=nr it c:=by kernel_rfl
def RY:jL ao.toSeat:=An ao.toSeat 20 [.Convoy] .Convoy 3 50 .Truck (fun a=>gQ a.1) (fun a x hx l d hd h=>m5 (Z:=ao) (ats:=[.Convoy]) (E:=Sb) (fn:=Tryd.f20) (c:=aU Tryd.f20) Tryd.func20 (by kernel_rfl) (by kernel_rfl) (by kernel_rfl) (by kernel_rfl) rfl ((S6 cH a.1).trans ((pJ a.1).symm.trans hx)) hd h)
end
end Go.Proofs.Plain04
namespace Go.Proofs.Plain04
open Go Go.Ab
open Go.Proofs.YtafnhieaeejlcaaDoor (al bO fC bI)
set_option linter.all false
theorem HQ{l:List Truck}{i:Nat}(hi:i<l.length):l.set i (⟨(l.getD i aK).Way,(l.getD i aK).Start,(l.getD i aK).Pace,([]:List Hold)++(l.getD i aK).Holds⟩:Truck)=l:=by
 have e:(⟨(l.getD i aK).Way,(l.getD i aK).Start,(l.getD i aK).Pace,([]:List Hold)++(l.getD i aK).Holds⟩:Truck)=l.getD i aK:=rfl
 rw[e,List.getD_eq_getElem?_getD,List.getElem?_eq_getElem hi]
 simp
theorem xA{c:Convoy}(h:gx c=true):gQ c=some c:=by
 rw[pJ];apply ok_eq
 simp only[gx,Bool.and_eq_true,decide_eq_true_eq,List.all_eq_true]at h
 obtain⟨h1,h2⟩:=h
 refine Ok.aP (fa (by simp;omega) (by omega)) ?_
 refine Ok.rounds (fun v=>0≤v.1.2.2.1∧v.1.2.2.1≤c.Trucks.length∧v.2.1.1=c.Length∧v.2.1.2.1=c.Gap∧v.2.1.2.2.1=c.Fails∧v.2.1.2.2.2.1=c.Trucks) (fun v=>((c.Trucks.length:Int)-v.1.2.2.1).toNat) ?_ ?_ ?_
 ·show((c.Trucks.length:Int)-0).toNat<18446744073709551616
  omega
 ·exact⟨Int.le_refl _,by show(0:Int)≤_;omega,rfl,rfl,rfl,rfl⟩
 rintro ⟨⟨_,_,i,_⟩,⟨a1,a2,a3,a4,_⟩,_⟩ kn ⟨i1,i2,i3,i4,i5,i6⟩ hk
 simp only at i1 i2 i3 i4 i5 i6⊢
 subst i3 i4 i5 i6
 have e:bG (i+1)=i+1:=bk (by omega) (by omega)
 refine Ok.ite (fun hlt=> ?_) fun _=>Ok.some rfl
 have hlt:=of_decide_eq_true hlt
 have hi:i.toNat<c.Trucks.length:=by omega
 have hh:=h2 _ (nN (d:=aK) hi)
 have b1:=ib i1 hlt
 have b2:decide (i.toNat<c.Trucks.length)=true:=decide_eq_true hi
 refine Ok.aP b1 (Ok.aP b2 (Ok.aP (fa (n:=0+(c.Trucks.getD i.toNat aK).Holds.length) (by omega) (by omega)) (Ok.aP b1 (Ok.aP b2 (Ok.aP b2 (hk _ ?_ ?_))))))
 ·simp only[e]
  exact⟨by omega,by omega,trivial,trivial,trivial,HQ hi⟩
 ·simp only[e];omega
end Go.Proofs.Plain04
