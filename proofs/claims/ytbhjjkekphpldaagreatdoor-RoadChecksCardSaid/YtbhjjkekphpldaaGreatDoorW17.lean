/- Walks by computing: what each function of the program that the laws reach gives for what it gets, as plain Lean, and that it is so; without a condition but those that stand in each theorem. -/
import Derived.Test.YtbhjjkekphpldaaGreatDoorCards
import Derived.Test.YtbhjjkekphpldaaGreatDoorTie
import Derived.WalkKit
import Derived.ProofKit
import Derived.OpenShut
import Derived.Deep.Slices
import Derived.Deep.DeepHandedRow
import Derived.Lib.LaidTab
import Derived.Shelf.Vars
import Derived.Test.YtbhjjkekphpldaaGreatDoorW1
import Derived.Test.YtbhjjkekphpldaaGreatDoorW2
import Derived.Test.YtbhjjkekphpldaaGreatDoorW3
import Derived.Test.YtbhjjkekphpldaaGreatDoorW4
import Derived.Test.YtbhjjkekphpldaaGreatDoorW5
import Derived.Test.YtbhjjkekphpldaaGreatDoorW6
import Derived.Test.YtbhjjkekphpldaaGreatDoorW7
import Derived.Test.YtbhjjkekphpldaaGreatDoorW8
import Derived.Test.YtbhjjkekphpldaaGreatDoorW9
import Derived.Test.YtbhjjkekphpldaaGreatDoorW10
import Derived.Test.YtbhjjkekphpldaaGreatDoorW11
import Derived.Test.YtbhjjkekphpldaaGreatDoorW12
import Derived.Test.YtbhjjkekphpldaaGreatDoorW13
import Derived.Test.YtbhjjkekphpldaaGreatDoorW14
import Derived.Test.YtbhjjkekphpldaaGreatDoorW15
import Derived.Test.YtbhjjkekphpldaaGreatDoorW16
set_option linter.all false
namespace Go.Proofs.YtbhjjkekphpldaaGreatDoor
open Go Go.Ab Go.ChangeShapes Go.WideShapes Go.ChangeAt Go.RowKit
set_option maxRecDepth 100000
def qG (w:World):Nat→Nat→Option Value:=fun b o=>w.cell? ⟨b,o,none⟩
theorem Wb (w:World):Fits (qG w) w:=fun _ _ _ h=>h
theorem pg {W:World}{x:String×DataW Unit}{r:List (String×DataW Unit)}{ps:List MemPlace} (h:DataW.LaidVars Tryz.prog W (x::r) ps):∃ q,DataW.LaidVars Tryz.prog W r q:=by
 obtain ⟨g,t,cs,fuel,p,q,_,_,_,_,h2,_⟩:=h
 exact⟨q,h2⟩
theorem Bt {W:World}{name:String}{g:Nat}{cs:Array Value}{l:List D}{u:List Value} (hg:Tryz.prog.globalNamed name=some g) (mU:W.var? Tryz.prog name=some cs) (hu:cs.toList=u) (hl:aY l=true) (hr:aD (qG W) gO eV l u) :
  aY l=true∧∃ u,aD (qG W) gO eV l u∧∀ j v,u[j]?=some v→qG W g j=some v :=
 ⟨hl,u,hr,fun j v hj=>by
  have:W.cell? ⟨g,j,none⟩=cs[j]?:=World.var?_cell hg mU j
  show W.cell? ⟨g,j,none⟩=some v
  rw[this,← hj,← hu];simp⟩
theorem ab7 {W:World}{name:String}{g:Nat}{cs:Array Value} (hg:Tryz.prog.globalNamed name=some g) (mU:W.var? Tryz.prog name=some cs):jH W g cs.size:=by
 simp only[World.var?,hg,Option.bind_some]at mU
 split at mU
 ·rename_i c t f h
  simp only[Option.some.injEq]at mU
  subst mU
  exact⟨c,t,f,h,rfl⟩
 ·cases mU
theorem DI {κ:Nat→Nat→Option Value}{γ:Nat→Nat}{sv:Nat→Value} (k:IntKind):∀ zs:List Int,aD κ γ sv (zs.map (D.int k)) (zs.map (Value.int k))
 |[]=>.nil
 |z::zs=>.cons _ _ _ _ (.int k z) (DI k zs)
theorem cF:Tryz.prog.cellsOf 3=1:=by kernel_rfl
theorem D9:Tryz.prog.cellsOf 9=1:=by kernel_rfl
theorem ae9:Tryz.prog.cellsOf 72=1:=by kernel_rfl
theorem aad:Tryz.prog.cellsOf 290=20:=by kernel_rfl
def Ar:List Int:=[1,10,100,1000,10000,100000,1000000,10000000,100000000,1000000000,10000000000,100000000000,1000000000000,10000000000000,100000000000000,1000000000000000,10000000000000000,100000000000000000,1000000000000000000,10000000000000000000]
section
variable {W:World}{ps:List MemPlace}{r:List (String×DataW Unit)}
theorem ale (h : DataW.LaidVars Tryz.prog W (("internal/strconv.uint64pow10", Rows.laid_internal_strconv_uint64pow10) :: r) ps) : ∃ cs, W.var? Tryz.prog "internal/strconv.uint64pow10" = some cs ∧ cs.toList = Ar.map (Value.int .u64) := by
 obtain ⟨g,t,cs,fuel,p,q,hg,ht,mU,hd,_,_⟩:=h
 have fx : Tryz.prog.globalNamed "internal/strconv.uint64pow10" = some 4 := by kernel_rfl
 have Fk:(Tryz.prog.globals[4]?).map (·.type)=some 290:=by kernel_rfl
 obtain rfl:=Option.some.inj (fx.symm.trans hg)
 obtain rfl:=Option.some.inj (Fk.symm.trans ht)
 exact⟨cs,mU,Lib.cells_of_tab (zs:=Ar) Tryz.underlying290 Tryz.underlying72 ae9 aad hd⟩
end
theorem K6:Tryz.prog.cellsOf 404=2:=by kernel_rfl
theorem aae:Tryz.prog.cellsOf 405=8:=by kernel_rfl
theorem K5:Tryz.prog.cellsOf 282=4:=by kernel_rfl
section
variable {W:World}{ps:List MemPlace}{r:List (String×DataW Unit)}
theorem aac (h : DataW.LaidVars Tryz.prog W (("sastrugi/convoy.cases", Rows.laid_sastrugi_convoy_cases) :: r) ps) : ∃ cs, W.var? Tryz.prog "sastrugi/convoy.cases" = some cs ∧ cs.toList = [0, 0, 1, 0, 0, 1, 1, 1].map (Value.int .i64) := by
 obtain ⟨g,t,cs,fuel,p,q,hg,ht,mU,hd,_,_⟩:=h
 have fx : Tryz.prog.globalNamed "sastrugi/convoy.cases" = some 8 := by kernel_rfl
 have Fk:(Tryz.prog.globals[8]?).map (·.type)=some 405:=by kernel_rfl
 obtain rfl:=Option.some.inj (fx.symm.trans hg)
 obtain rfl:=Option.some.inj (Fk.symm.trans ht)
 obtain ⟨xs,m,rfl,hx,hlen,bS,he⟩:=DataW.trod_array Tryz.underlying405 hd
 have Ir:=congrArg Prod.fst hx
 simp only[Rows.laid_sastrugi_convoy_cases,DataW.agg.injEq]at Ir
 rw[aae]at hlen
 rw[K6]at he
 have row:∀ i a b,i<4→(xs.map (·.1))[i]?=some (.agg [.lit (.int .i64 a),.lit (.int .i64 b)])→(cs.toList.drop (i * 2)).take 2=[Value.int .i64 a,Value.int .i64 b]:=fun i a b hi ek=>by
  rw[List.getElem?_map]at ek
  obtain ⟨y,hy,Is⟩:=Option.map_eq_some_iff.1 ek
  have h1:=he i hi
  rw[hy]at h1
  obtain ⟨d,p'⟩:=y
  simp only at Is
  subst Is
  exact Lib.cells_of_tab (zs:=[a,b]) Tryz.underlying404 Tryz.underlying3 cF K6 h1
 rw[← Ir]at row
 have r0:=row 0 0 0 (by decide) rfl
 have r1:=row 1 1 0 (by decide) rfl
 have r2:=row 2 0 1 (by decide) rfl
 have r3:=row 3 1 1 (by decide) rfl
 refine ⟨cs,mU,?_⟩
 generalize cs.toList=l at hlen r0 r1 r2 r3
 rcases l with _|⟨c0,_|⟨c1,_|⟨c2,_|⟨c3,_|⟨c4,_|⟨c5,_|⟨c6,_|⟨c7,_|⟨c8,l⟩⟩⟩⟩⟩⟩⟩⟩⟩<;>simp at hlen
 simp at r0 r1 r2 r3
 obtain ⟨rfl,rfl⟩:=r0
 obtain ⟨rfl,rfl⟩:=r1
 obtain ⟨rfl,rfl⟩:=r2
 obtain ⟨rfl,rfl⟩:=r3
 rfl
theorem ag6 (h : DataW.LaidVars Tryz.prog W (("sastrugi/road.told", Rows.laid_sastrugi_road_told) :: r) ps) : ∃ cs, W.var? Tryz.prog "sastrugi/road.told" = some cs ∧ cs.toList = [.string ⟨#[]⟩, .string ⟨#[115, 117, 114, 101]⟩, .string ⟨#[110, 101, 118, 101, 114]⟩, .string ⟨#[111, 112, 101, 110]⟩] := by
 obtain ⟨g,t,cs,fuel,p,q,hg,ht,mU,hd,_,_⟩:=h
 have fx : Tryz.prog.globalNamed "sastrugi/road.told" = some 3 := by kernel_rfl
 have Fk:(Tryz.prog.globals[3]?).map (·.type)=some 282:=by kernel_rfl
 obtain rfl:=Option.some.inj (fx.symm.trans hg)
 obtain rfl:=Option.some.inj (Fk.symm.trans ht)
 obtain ⟨xs,m,rfl,hx,hlen,bS,he⟩:=DataW.trod_array Tryz.underlying282 hd
 have Ir:=congrArg Prod.fst hx
 simp only[Rows.laid_sastrugi_road_told,DataW.agg.injEq]at Ir
 rw[K5]at hlen
 rw[D9]at he
 have row:∀ i (b:List UInt8),i<4→(xs.map (·.1))[i]?=some (.lit (.string b))→(cs.toList.drop (i * 1)).take 1=[Value.string ⟨b.toArray⟩]:=fun i b hi ek=>by
  rw[List.getElem?_map]at ek
  obtain ⟨y,hy,Is⟩:=Option.map_eq_some_iff.1 ek
  have h1:=he i hi
  rw[hy]at h1
  obtain ⟨d,p'⟩:=y
  simp only at Is
  subst Is
  obtain ⟨s,e1,e2,_⟩:=DataW.trod_string Tryz.underlying9 h1
  rw[e1]
  have e3:=congrArg Prod.fst e2
  simp only[DataW.lit.injEq,Lit.string.injEq]at e3
  subst e3
  simp
 rw[← Ir]at row
 have r0:=row 0 [] (by decide) rfl
 have r1:=row 1 [115,117,114,101] (by decide) rfl
 have r2:=row 2 [110,101,118,101,114] (by decide) rfl
 have r3:=row 3 [111,112,101,110] (by decide) rfl
 refine ⟨cs,mU,?_⟩
 generalize cs.toList=l at hlen r0 r1 r2 r3
 rcases l with _|⟨c0,_|⟨c1,_|⟨c2,_|⟨c3,_|⟨c4,l⟩⟩⟩⟩⟩<;>simp at hlen
 simp at r0 r1 r2 r3
 subst r0 r1 r2 r3
 rfl
theorem Vg (h : DataW.LaidVars Tryz.prog W (("sastrugi/road.reasons", Rows.laid_sastrugi_road_reasons) :: r) ps) : ∃ cs, W.var? Tryz.prog "sastrugi/road.reasons" = some cs ∧ cs.toList = [.string ⟨#[]⟩, .string ⟨#[116, 104, 105, 110]⟩, .string ⟨#[109, 97, 114, 107]⟩, .string ⟨#[115, 116, 97, 108, 101]⟩] := by
 obtain ⟨g,t,cs,fuel,p,q,hg,ht,mU,hd,_,_⟩:=h
 have fx : Tryz.prog.globalNamed "sastrugi/road.reasons" = some 5 := by kernel_rfl
 have Fk:(Tryz.prog.globals[5]?).map (·.type)=some 282:=by kernel_rfl
 obtain rfl:=Option.some.inj (fx.symm.trans hg)
 obtain rfl:=Option.some.inj (Fk.symm.trans ht)
 obtain ⟨xs,m,rfl,hx,hlen,bS,he⟩:=DataW.trod_array Tryz.underlying282 hd
 have Ir:=congrArg Prod.fst hx
 simp only[Rows.laid_sastrugi_road_reasons,DataW.agg.injEq]at Ir
 rw[K5]at hlen
 rw[D9]at he
 have row:∀ i (b:List UInt8),i<4→(xs.map (·.1))[i]?=some (.lit (.string b))→(cs.toList.drop (i * 1)).take 1=[Value.string ⟨b.toArray⟩]:=fun i b hi ek=>by
  rw[List.getElem?_map]at ek
  obtain ⟨y,hy,Is⟩:=Option.map_eq_some_iff.1 ek
  have h1:=he i hi
  rw[hy]at h1
  obtain ⟨d,p'⟩:=y
  simp only at Is
  subst Is
  obtain ⟨s,e1,e2,_⟩:=DataW.trod_string Tryz.underlying9 h1
  rw[e1]
  have e3:=congrArg Prod.fst e2
  simp only[DataW.lit.injEq,Lit.string.injEq]at e3
  subst e3
  simp
 rw[← Ir]at row
 have r0:=row 0 [] (by decide) rfl
 have r1:=row 1 [116,104,105,110] (by decide) rfl
 have r2:=row 2 [109,97,114,107] (by decide) rfl
 have r3:=row 3 [115,116,97,108,101] (by decide) rfl
 refine ⟨cs,mU,?_⟩
 generalize cs.toList=l at hlen r0 r1 r2 r3
 rcases l with _|⟨c0,_|⟨c1,_|⟨c2,_|⟨c3,_|⟨c4,l⟩⟩⟩⟩⟩<;>simp at hlen
 simp at r0 r1 r2 r3
 subst r0 r1 r2 r3
 rfl
end
theorem anH {H:Type}{enc:TypeId×Value→H}{P:Program}{w:World}{base:Nat}{spare:Nat→Bool}{held:Bool}{fuel:Nat}{t:TypeId}{ms:Array (String×TypeId)}{cs:List Value}{name:String}{d:DataW H}{ps:List MemPlace}
  (ht:P.underlying t=some (.interface ms)) (h:DataW.trod enc P w base spare held fuel t cs=some (.iface name d,ps)):∃ u v,cs=[.iface u v]:=by
 cases fuel with
 |zero=>simp[DataW.trod]at h
 |succ n =>
  rcases cs with _|⟨v,_|⟨v2,r⟩⟩
  ·simp[DataW.trod,ht]at h
  ·cases v with
   |iface u v=>exact⟨u,v,rfl⟩
   |_=>simp[DataW.trod,ht]at h
  ·simp[DataW.trod,ht]at h
section
variable {W:World}{ps:List MemPlace}{r:List (String×DataW Unit)}
theorem ac1 {name:String}{n:Nat}{nm:String}{d:DataW Unit} (fx:Tryz.prog.globalNamed name=some n) (Fk:(Tryz.prog.globals[n]?).map (·.type)=some 181) (h:DataW.LaidVars Tryz.prog W ((name,.iface nm d)::r) ps):∃ cs u v,W.var? Tryz.prog name=some cs∧cs.toList=[.iface u v]:=by
 obtain ⟨g,t,cs,fuel,p,q,hg,ht,mU,hd,_,_⟩:=h
 obtain rfl:=Option.some.inj (fx.symm.trans hg)
 obtain rfl:=Option.some.inj (Fk.symm.trans ht)
 obtain ⟨u,v,e⟩:=anH Tryz.underlying181 hd
 exact⟨cs,u,v,mU,e⟩
end
theorem afU {W : World} (h : laidMetH Tryz.prog [("math/bits.deBruijn32tab", Rows.laid_math_bits_deBruijn32tab), ("math/bits.deBruijn64tab", Rows.laid_math_bits_deBruijn64tab), ("internal/strconv.uint64pow10", Rows.laid_internal_strconv_uint64pow10), ("unicode/utf8.acceptRanges", Rows.laid_unicode_utf8_acceptRanges), ("strconv.ErrRange", Rows.laid_strconv_ErrRange), ("strconv.ErrSyntax", Rows.laid_strconv_ErrSyntax), ("sastrugi/convoy.cases", Rows.laid_sastrugi_convoy_cases), ("sastrugi/road.told", Rows.laid_sastrugi_road_told), ("sastrugi/road.reasons", Rows.laid_sastrugi_road_reasons), ("unicode/utf8.first", Rows.laid_unicode_utf8_first)] W) (zW : W.ShapedOpen Tryz.prog) : iA ae.toSeat (qG W) W := by
 have h' : laidMet Tryz.prog [("math/bits.deBruijn32tab", Rows.laid_math_bits_deBruijn32tab), ("math/bits.deBruijn64tab", Rows.laid_math_bits_deBruijn64tab), ("internal/strconv.uint64pow10", Rows.laid_internal_strconv_uint64pow10), ("unicode/utf8.acceptRanges", Rows.laid_unicode_utf8_acceptRanges), ("strconv.ErrRange", Rows.laid_strconv_ErrRange), ("strconv.ErrSyntax", Rows.laid_strconv_ErrSyntax), ("sastrugi/convoy.cases", Rows.laid_sastrugi_convoy_cases), ("sastrugi/road.told", Rows.laid_sastrugi_road_told), ("sastrugi/road.reasons", Rows.laid_sastrugi_road_reasons), ("unicode/utf8.first", Rows.laid_unicode_utf8_first)] W := h
 obtain ⟨ps,h0,_⟩:=h'
 obtain ⟨_,h1⟩:=pg h0
 obtain ⟨_,h2⟩:=pg h1
 obtain ⟨_,h3⟩:=pg h2
 obtain ⟨_,h4⟩:=pg h3
 obtain ⟨_,h5⟩:=pg h4
 obtain ⟨_,h6⟩:=pg h5
 obtain ⟨_,h7⟩:=pg h6
 obtain ⟨_,h8⟩:=pg h7
 obtain ⟨c2,v2,u2⟩:=ale h2
 obtain ⟨c7,t7,p7,v7,u7⟩:=ac1 (n:=10) (by kernel_rfl) (by kernel_rfl) h4
 obtain ⟨c6,t6,p6,v6,u6⟩:=ac1 (n:=9) (by kernel_rfl) (by kernel_rfl) h5
 obtain ⟨c8,v8,u8⟩:=aac h6
 obtain ⟨c3,v3,u3⟩:=ag6 h7
 obtain ⟨c5,v5,u5⟩:=Vg h8
 obtain ⟨m,hm⟩:=cell_of_shapedOpen_int (g:=0) (t:=3) (zero:=#[.int .i64 0]) (k:=.i64) zW (of_decide_eq_true (by kernel_rfl)) (by kernel_rfl) rfl (by kernel_rfl) (by kernel_rfl) Tryz.underlying3
 constructor
 ·intro g l hl
  have ir:Bu g=some l:=hl
  unfold Bu at ir
  split at ir
  ·simp only[Option.some.injEq]at ir
   subst ir
   refine ⟨rfl,[.int .i64 m],.cons _ _ _ _ (.lk _ _ ⟨m,rfl⟩) .nil,fun j v hj=>?_⟩
   rcases j with _|j
   ·cases hj;exact hm
   ·cases hj
  ·simp only[Option.some.injEq]at ir
   subst ir
   exact Bt (name := "sastrugi/road.told") (by kernel_rfl) v3 u3 rfl (.cons _ _ _ _ (.str _) (.cons _ _ _ _ (.str _) (.cons _ _ _ _ (.str _) (.cons _ _ _ _ (.str _) .nil))))
  ·simp only[Option.some.injEq]at ir
   subst ir
   exact Bt (name := "internal/strconv.uint64pow10") (by kernel_rfl) v2 u2 rfl (DI .u64 Ar)
  ·simp only[Option.some.injEq]at ir
   subst ir
   exact Bt (name := "sastrugi/road.reasons") (by kernel_rfl) v5 u5 rfl (.cons _ _ _ _ (.str _) (.cons _ _ _ _ (.str _) (.cons _ _ _ _ (.str _) (.cons _ _ _ _ (.str _) .nil))))
  ·simp only[Option.some.injEq]at ir
   subst ir
   exact Bt (name := "sastrugi/convoy.cases") (by kernel_rfl) v8 u8 rfl (DI .i64 [0, 0, 1, 0, 0, 1, 1, 1])
  ·simp only[Option.some.injEq]at ir
   subst ir
   exact Bt (name := "strconv.ErrSyntax") (by kernel_rfl) v6 u6 rfl (.cons _ _ _ _ (.lk _ _ ⟨t6, p6, rfl⟩) .nil)
  ·simp only[Option.some.injEq]at ir
   subst ir
   exact Bt (name := "strconv.ErrRange") (by kernel_rfl) v7 u7 rfl (.cons _ _ _ _ (.lk _ _ ⟨t7, p7, rfl⟩) .nil)
  ·cases ir
 ·intro g n hn
  have od:My g=some n:=hn
  unfold My at od
  split at od
  ·simp only[Option.some.injEq]at od
   subst od
   have h5 := ab7 (name := "internal/strconv.uint64pow10") (g := 4) (by kernel_rfl) v2
   have h6:c2.size=20:=by
    have:=congrArg List.length u2
    simpa[Ar] using this
   rw[h6]at h5
   exact h5
  ·cases od
theorem laidOut:laidOutB Tryz.prog=true:=by kernel_rfl
theorem own:ownKnob Tryz.prog.godebug=none:=by kernel_rfl
theorem yI {H:Type}{enc:TypeId×Value→H}{W W':World}{Ox:Nat→Bool} (hb:Below W.heap.size W W'):∀ {ts:List TypeId}{vs:List Value}{ds:List (DataW H)}{ps:List MemPlace},
  (∀ t∈ts,Tryz.prog.readableRec t=true∧t<Tryz.prog.types.size)→DataW.TrodAll enc Tryz.prog W 0 (fun _=>true) true ts vs ds ps→(∀ p∈ps,p.block<W.heap.size)→(∀ p∈ps,Ox p.block=true) →
  DataW.TrodAll enc Tryz.prog W' 0 Ox true ts vs ds ps
 |[],[],[],_,_,h,_,_=>h
 |_::_,_::_,_::_,_,hT,⟨p,q,h1,h2,e⟩,cz,hs=>⟨p,q,
   WideElems.Trod_stays laidOut (hT _ (List.mem_cons_self ..)).1 (hT _ (List.mem_cons_self ..)).2 h1 (fun x hx=>hb.same (cz x (by rw[e];exact List.mem_append_left _ hx))) (fun x hx=>hs x (by rw[e];exact List.mem_append_left _ hx)),
   yI hb (fun t ht=>hT t (List.mem_cons_of_mem _ ht)) h2 (fun x hx=>cz x (by rw[e];exact List.mem_append_right _ hx)) (fun x hx=>hs x (by rw[e];exact List.mem_append_right _ hx)),e⟩
theorem abO {H:Type}{enc:TypeId×Value→H}{f:Func}{s:ChangeSpec}{W W':World}{args:Array Value}{ds gs:List (DataW H)}{before:List MemPlace}
  (hW:DataW.Whole enc Tryz.prog f.params.toList s.vars false W args.toList ds gs before) (hv:s.vars=[]) (hb:Below W.heap.size W W')
  (hT:∀ t∈f.params.toList,Tryz.prog.readableRec t=true∧t<Tryz.prog.types.size) (hrt:f.resultTypes=#[4])
  (hr:(s.fn H (ds++gs)).results=[.lit (.bool true)]) (ha:(s.fn H (ds++gs)).args=ds) (mV:(s.fn H (ds++gs)).vars=[]) :
  s.post enc Tryz.prog f false true false false W args (.bool true) W':=by
 have cz:=hW.lt
 have hW2:=hW
 obtain ⟨p,q,hA,hV,rfl,_,_⟩:=hW
 rw[hv]at hV
 obtain ⟨rfl,rfl⟩:=trodVars_none hV
 refine ⟨ds,[],p++[],[],p,[],hW2,?_,?_,?_,hb.frame _,fun h=>by cases h⟩
 ·rw[hr,hrt]
  exact trodAll_mk1 (shut_bool Tryz.underlying4 _)
 ·rw[ha]
  exact yI hb hT hA (fun x hx=>cz x (by simpa using hx)) (fun x hx=>by simpa using cz x (by simpa using hx))
 ·rw[mV,hv];rfl
def vD (l:List Value):Obj→Obj
 |.cells _ t frozen=>.cells l.toArray t frozen
 |o=>o
def am6:List Int:=[0,1,28,2,29,14,24,3,30,22,20,15,25,17,4,8,31,27,13,23,21,19,16,7,26,12,18,6,11,5,10,9]
def am7:List Int:=[0,1,56,2,57,49,28,3,61,58,42,50,38,29,17,4,62,47,59,36,45,43,51,22,53,39,33,30,24,18,12,5,63,55,48,27,60,41,37,16,46,35,44,21,52,32,23,11,54,26,40,15,34,20,31,10,25,14,19,9,13,8,7,6]
def acc:List Int:=[128,191,160,191,128,159,144,191,128,143,0,0,0,0,0,0,0,0,0,0,0,0,0,0,0,0,0,0,0,0,0,0]
def Zg:ByteArray:=⟨#[118,97,108,117,101,32,111,117,116,32,111,102,32,114,97,110,103,101]⟩
def al5:ByteArray:=⟨#[105,110,118,97,108,105,100,32,115,121,110,116,97,120]⟩
noncomputable def low:Nat:=(World.holding Tryz.prog default ⟨#[],#[],[]⟩).heap.size
noncomputable def Ac (os:Os):World :=
 { World.holding Tryz.prog os ⟨#[.cells #[.string Zg] 437,.cells #[.string al5] 437],#[],[]⟩ with heap:=(((((((((((World.holding Tryz.prog os ⟨#[.cells #[.string Zg] 437,.cells #[.string al5] 437],#[],[]⟩).heap.modify 4 (vD (Ar.map (Value.int .u64)))).modify 1 (vD (Go.Pinned.utf8FirstZ.map fun (n:Nat)=>Value.int .u8 (n:Int)))).modify 2 (vD (acc.map (Value.int .u8)))).modify 9 (vD ([.iface 435 (.pointer (some ⟨low+1,0,none⟩))]))).modify 10 (vD ([.iface 435 (.pointer (some ⟨low,0,none⟩))]))).modify 6 (vD (am6.map (Value.int .u8)))).modify 7 (vD (am7.map (Value.int .u8)))).modify 8 (vD ([0,0,1,0,0,1,1,1].map (Value.int .i64)))).modify 3 (vD ([.string ⟨#[]⟩,.string ⟨#[115,117,114,101]⟩,.string ⟨#[110,101,118,101,114]⟩,.string ⟨#[111,112,101,110]⟩]))).modify 5 (vD ([.string ⟨#[]⟩,.string ⟨#[116,104,105,110]⟩,.string ⟨#[109,97,114,107]⟩,.string ⟨#[115,116,97,108,101]⟩]))) }
end Go.Proofs.YtbhjjkekphpldaaGreatDoor
namespace Go.Proofs.YtbhjjkekphpldaaGreatDoor
open Go Go.Ab Go.ChangeShapes Go.WideShapes Go.ChangeAt Go.RowKit
set_option linter.all false
set_option maxRecDepth 100000
section
variable {H:Type}{enc:TypeId×Value→H}{W:World}
def Rd {α:Type} (enc:TypeId×Value→H) (W:World) (t:TypeId) (ec:α→List D):Prop :=
 ∀ n cs x,DataW.trod enc Tryz.prog W 0 (fun _=>true) true n t cs=some x→∃ a:α,aD (qG W) gO eV (ec a) cs
theorem cQ:Rd enc W 3 Da:=by
 intro n cs x h
 obtain ⟨a,rfl,_⟩:=DataW.trod_int Tryz.underlying3 h
 exact⟨a,.cons _ _ _ _ (.int _ _) .nil⟩
theorem il {α:Type} [Inhabited α] {t e z:Nat}{ec:α→List D} (ht:Tryz.prog.underlying t=some (.slice e)) (hz:Tryz.prog.cellsOf e=z) (iK:0<z) (hl:∀ a,(ec a).length=z)
  (hc:∀ a,aY (ec a)=true) (hr:Rd enc W e ec):Rd enc W t (fun l:List α=>[DP z ec l]):=by
 intro n cs x h
 rcases Deep.open_slice ht h with ⟨rfl,rfl⟩|⟨a,len,cap,m,n',D,Pl,rfl,_,hlc,_,hm,rfl,hx⟩
 ·exact⟨[],.cons _ _ _ _ (.lI _ _) .nil⟩
 ·simp only[if_true]at hm
  subst hm
  rw[hz]at hx
  rcases Nat.eq_zero_or_pos len with rfl|Um
  ·exact⟨[],.cons _ _ _ _ (.kV _ _ _ _) .nil⟩
  ·have Fm:∀ i,i<len→∃ p:α×List Value,W.cells? 0 (a.add (i * z)) z=some p.2∧aD (qG W) gO eV (ec p.1) p.2:=fun i hi=>by
    obtain ⟨sC,h1,h2⟩:=hx i (by omega)
    obtain ⟨b,hb⟩:=hr _ _ _ h2
    exact⟨(b,sC),h1,hb⟩
   obtain ⟨F,hF⟩:=Deep.choose_lt Fm
   have iu:a.spot=none:=by
    obtain ⟨_,h1,h2⟩:=World.cells?_some (hF 0 Um).1
    have h3:=h2 0 iK
    rw[List.getElem?_eq_getElem (by omega)]at h3
    simpa[Addr.add] using World.cell?_spot h3
   obtain ⟨b,off,sp⟩:=a
   simp only at iu
   subst iu
   refine ⟨(List.range len).map (fun i=>(F i).1),.cons _ _ _ _ ?_ .nil⟩
   have hlen:((List.range len).map (fun i=>(F i).1)).length=len:=by simp
   have hg:∀ i,i<len→((List.range len).map (fun i=>(F i).1)).getD i default=(F i).1:=fun i hi=>by simp[List.getD,hi]
   unfold DP
   rw[hlen]
   refine .sl z len _ b off m (fun i=>(F i).2) hlc (fun i _=>hl _) (fun i _=>hc _) (fun i hi=>by rw[hg i hi];exact(hF i hi).2) (fun i j v hi hj=>?_)
   obtain ⟨_,h1,h2⟩:=World.cells?_some (hF i hi).1
   have mT:=(List.getElem?_eq_some_iff.1 hj).1
   have h3:=h2 j (by omega)
   rw[add_plain,add_plain,hj]at h3
   exact h3
theorem yf {fs:Array Field}{xs:List (DataW H×List MemPlace)}{cs:List Value}{n:Nat}
  (hf:∀ (i:Nat) (f:Field),fs[i]?=some f→DataW.trod enc Tryz.prog W 0 (fun _=>true) true n f.type ((cs.drop f.offset).take (Tryz.prog.cellsOf f.type))=xs[i]?)
  (hl:xs.length=fs.size) (i:Nat) (f:Field) (hi:fs[i]?=some f):∃ y,DataW.trod enc Tryz.prog W 0 (fun _=>true) true n f.type ((cs.drop f.offset).take (Tryz.prog.cellsOf f.type))=some y:=by
 have h1:=(Array.getElem?_eq_some_iff.1 hi).1
 rw[← hl]at h1
 exact⟨xs[i],by rw[hf i f hi];exact List.getElem?_eq_getElem h1⟩
theorem Zi:Rd enc W 9 (fun s:ByteArray=>[D.str s]):=by
 intro n cs x h
 obtain ⟨a,rfl,_⟩:=DataW.trod_string Tryz.underlying9 h
 exact⟨a,.cons _ _ _ _ (.str _) .nil⟩
theorem dC {fs:Array Field}{xs:List (DataW H×List MemPlace)}{cs:List Value}{n:Nat}
  (hf:∀ (i:Nat) (f:Field),fs[i]?=some f→DataW.trod enc Tryz.prog W 0 (fun _=>true) true n f.type ((cs.drop f.offset).take (Tryz.prog.cellsOf f.type))=xs[i]?)
  (hl:xs.length=fs.size) (i:Nat) {f:Field} (hi:fs[i]?=some f) {α:Type}{ec:α→List D}{t:TypeId}{o z:Nat} (hr:Rd enc W t ec) (ht:f.type=t) (ho:f.offset=o) (hz:Tryz.prog.cellsOf t=z):∃ a,aD (qG W) gO eV (ec a) ((cs.drop o).take z):=by
 obtain ⟨y,hy⟩:=yf hf hl i f hi
 subst ht ho hz
 exact hr _ _ _ hy
theorem cat {κ:Nat→Nat→Option Value}{γ:Nat→Nat}{sv:Nat→Value}{a b:List D}{cs:List Value}{o z n:Nat} (ha:aD κ γ sv a ((cs.drop o).take z)) (hb:aD κ γ sv b ((cs.drop (o+z)).take n)):aD κ γ sv (a++b) ((cs.drop o).take (z+n)):=by
 rw[List.take_add,List.drop_drop]
 exact ha.append hb
theorem fin {κ:Nat→Nat→Option Value}{γ:Nat→Nat}{sv:Nat→Value}{a:List D}{cs:List Value}{n:Nat} (h:aD κ γ sv a ((cs.drop 0).take n)) (hn:cs.length=n):aD κ γ sv a cs:=by
 rw[List.drop_zero,List.take_of_length_le (by omega)]at h
 exact h
theorem js:Tryz.prog.cellsOf 27=2:=by kernel_rfl
theorem sq:Rd enc W 27 iP:=by
 intro n cs x h
 obtain ⟨xs,m,rfl,rfl,hlen,bS,hf⟩:=DataW.trod_struct Tryz.underlying27 h
 obtain ⟨a0,e0⟩:=dC (o:=0) hf bS 0 rfl cQ rfl rfl cF
 obtain ⟨a1,e1⟩:=dC (o:=1) hf bS 1 rfl cQ rfl rfl cF
 exact⟨⟨a0,a1⟩,fin (cat e0 e1) (hlen.trans js)⟩
theorem P1:Tryz.prog.cellsOf 82=5:=by kernel_rfl
theorem ast:Rd enc W 82 oD:=by
 intro n cs x h
 obtain ⟨xs,m,rfl,rfl,hlen,bS,hf⟩:=DataW.trod_struct Tryz.underlying82 h
 obtain ⟨a0,e0⟩:=dC (o:=0) hf bS 0 rfl cQ rfl rfl cF
 obtain ⟨a1,e1⟩:=dC (o:=1) hf bS 1 rfl cQ rfl rfl cF
 obtain ⟨a2,e2⟩:=dC (o:=2) hf bS 2 rfl cQ rfl rfl cF
 obtain ⟨a3,e3⟩:=dC (o:=3) hf bS 3 rfl cQ rfl rfl cF
 obtain ⟨a4,e4⟩:=dC (o:=4) hf bS 4 rfl cQ rfl rfl cF
 exact⟨⟨a0,a1,a2,a3,a4⟩,fin (cat e0 (cat e1 (cat e2 (cat e3 e4)))) (hlen.trans P1)⟩
theorem ae0:Tryz.prog.cellsOf 22=1:=by kernel_rfl
theorem PL:Tryz.prog.cellsOf 23=3:=by kernel_rfl
theorem asg:Rd enc W 23 zr:=by
 intro n cs x h
 obtain ⟨xs,m,rfl,hx,hlen,bS,he⟩:=DataW.trod_array Tryz.underlying23 h
 have at_:∀ i,i<3→∃ a:Int,aD (qG W) gO eV (Da a) ((cs.drop (i * Tryz.prog.cellsOf 3)).take (Tryz.prog.cellsOf 3)):=fun i hi=>by
  have h1:=he i hi
  rw[List.getElem?_eq_getElem (by omega)]at h1
  exact cQ _ _ _ h1
 rw[cF]at at_
 obtain ⟨a0,e0⟩:=at_ 0 (by decide)
 obtain ⟨a1,e1⟩:=at_ 1 (by decide)
 obtain ⟨a2,e2⟩:=at_ 2 (by decide)
 exact⟨⟨a0,a1,a2⟩,fin (cat e0 (cat e1 e2)) (hlen.trans PL)⟩
theorem PM:Tryz.prog.cellsOf 25=4:=by kernel_rfl
theorem ash:Rd enc W 25 xo:=by
 intro n cs x h
 obtain ⟨xs,m,rfl,rfl,hlen,bS,hf⟩:=DataW.trod_struct Tryz.underlying25 h
 obtain ⟨a0,e0⟩:=dC (o:=0) hf bS 0 rfl (il (ec:=oD) Tryz.underlying22 P1 (by decide) (fun _=>rfl) (fun _=>rfl) ast) rfl rfl ae0
 obtain ⟨a1,e1⟩:=dC (o:=1) hf bS 1 rfl asg rfl rfl PL
 exact⟨⟨a0,a1⟩,fin (cat e0 e1) (hlen.trans PM)⟩
theorem CK:Tryz.prog.cellsOf 111=2:=by kernel_rfl
theorem ad3:Rd enc W 111 iC:=by
 intro n cs x h
 obtain ⟨xs,m,rfl,rfl,hlen,bS,hf⟩:=DataW.trod_struct Tryz.underlying111 h
 obtain ⟨a0,e0⟩:=dC (o:=0) hf bS 0 rfl cQ rfl rfl cF
 obtain ⟨a1,e1⟩:=dC (o:=1) hf bS 1 rfl cQ rfl rfl cF
 exact⟨⟨a0,a1⟩,fin (cat e0 e1) (hlen.trans CK)⟩
theorem PN:Tryz.prog.cellsOf 28=1:=by kernel_rfl
theorem PR:Tryz.prog.cellsOf 30=11:=by kernel_rfl
theorem asi:Rd enc W 30 zo:=by
 intro n cs x h
 obtain ⟨xs,m,rfl,rfl,hlen,bS,hf⟩:=DataW.trod_struct Tryz.underlying30 h
 obtain ⟨a0,e0⟩:=dC (o:=0) hf bS 0 rfl sq rfl rfl js
 obtain ⟨a1,e1⟩:=dC (o:=2) hf bS 1 rfl (il (ec:=iC) Tryz.underlying28 CK (by decide) (fun _=>rfl) (fun _=>rfl) ad3) rfl rfl PN
 obtain ⟨a2,e2⟩:=dC (o:=3) hf bS 2 rfl (il (ec:=iC) Tryz.underlying28 CK (by decide) (fun _=>rfl) (fun _=>rfl) ad3) rfl rfl PN
 obtain ⟨a3,e3⟩:=dC (o:=4) hf bS 3 rfl cQ rfl rfl cF
 obtain ⟨a4,e4⟩:=dC (o:=5) hf bS 4 rfl cQ rfl rfl cF
 obtain ⟨a5,e5⟩:=dC (o:=6) hf bS 5 rfl cQ rfl rfl cF
 obtain ⟨a6,e6⟩:=dC (o:=7) hf bS 6 rfl cQ rfl rfl cF
 obtain ⟨a7,e7⟩:=dC (o:=8) hf bS 7 rfl cQ rfl rfl cF
 obtain ⟨a8,e8⟩:=dC (o:=9) hf bS 8 rfl cQ rfl rfl cF
 obtain ⟨a9,e9⟩:=dC (o:=10) hf bS 9 rfl cQ rfl rfl cF
 exact⟨⟨a0,a1,a2,a3,a4,a5,a6,a7,a8,a9⟩,fin (cat e0 (cat e1 (cat e2 (cat e3 (cat e4 (cat e5 (cat e6 (cat e7 (cat e8 e9))))))))) (hlen.trans PR)⟩
theorem PY:Tryz.prog.cellsOf 58=6:=by kernel_rfl
theorem asq:Rd enc W 58 jl:=by
 intro n cs x h
 obtain ⟨xs,m,rfl,rfl,hlen,bS,hf⟩:=DataW.trod_struct Tryz.underlying58 h
 obtain ⟨a0,e0⟩:=dC (o:=0) hf bS 0 rfl Zi rfl rfl D9
 obtain ⟨a1,e1⟩:=dC (o:=1) hf bS 1 rfl cQ rfl rfl cF
 obtain ⟨a2,e2⟩:=dC (o:=2) hf bS 2 rfl sq rfl rfl js
 obtain ⟨a3,e3⟩:=dC (o:=4) hf bS 3 rfl sq rfl rfl js
 exact⟨⟨a0,a1,a2,a3⟩,fin (cat e0 (cat e1 (cat e2 e3))) (hlen.trans PY)⟩
theorem ae1:Tryz.prog.cellsOf 31=1:=by kernel_rfl
theorem K3:Tryz.prog.cellsOf 125=4:=by kernel_rfl
theorem aok:Rd enc W 125 o8:=by
 intro n cs x h
 obtain ⟨xs,m,rfl,rfl,hlen,bS,hf⟩:=DataW.trod_struct Tryz.underlying125 h
 obtain ⟨a0,e0⟩:=dC (o:=0) hf bS 0 rfl cQ rfl rfl cF
 obtain ⟨a1,e1⟩:=dC (o:=1) hf bS 1 rfl cQ rfl rfl cF
 obtain ⟨a2,e2⟩:=dC (o:=2) hf bS 2 rfl sq rfl rfl js
 exact⟨⟨a0,a1,a2⟩,fin (cat e0 (cat e1 e2)) (hlen.trans K3)⟩
theorem ae2:Tryz.prog.cellsOf 32=1:=by kernel_rfl
theorem PS:Tryz.prog.cellsOf 34=2:=by kernel_rfl
theorem asj:Rd enc W 34 C9:=by
 intro n cs x h
 obtain ⟨xs,m,rfl,rfl,hlen,bS,hf⟩:=DataW.trod_struct Tryz.underlying34 h
 obtain ⟨a0,e0⟩:=dC (o:=0) hf bS 0 rfl (il (ec:=jl) Tryz.underlying31 PY (by decide) (fun _=>rfl) (fun _=>rfl) asq) rfl rfl ae1
 obtain ⟨a1,e1⟩:=dC (o:=1) hf bS 1 rfl (il (ec:=o8) Tryz.underlying32 K3 (by decide) (fun _=>rfl) (fun _=>rfl) aok) rfl rfl ae2
 exact⟨⟨a0,a1⟩,fin (cat e0 e1) (hlen.trans PS)⟩
theorem K2:Tryz.prog.cellsOf 119=5:=by kernel_rfl
theorem aoj:Rd enc W 119 oB:=by
 intro n cs x h
 obtain ⟨xs,m,rfl,rfl,hlen,bS,hf⟩:=DataW.trod_struct Tryz.underlying119 h
 obtain ⟨a0,e0⟩:=dC (o:=0) hf bS 0 rfl cQ rfl rfl cF
 obtain ⟨a1,e1⟩:=dC (o:=1) hf bS 1 rfl cQ rfl rfl cF
 obtain ⟨a2,e2⟩:=dC (o:=2) hf bS 2 rfl sq rfl rfl js
 obtain ⟨a3,e3⟩:=dC (o:=4) hf bS 3 rfl cQ rfl rfl cF
 exact⟨⟨a0,a1,a2,a3⟩,fin (cat e0 (cat e1 (cat e2 e3))) (hlen.trans K2)⟩
theorem ae3:Tryz.prog.cellsOf 35=1:=by kernel_rfl
theorem PT:Tryz.prog.cellsOf 37=1:=by kernel_rfl
theorem K1:Tryz.prog.cellsOf 113=7:=by kernel_rfl
theorem aoi:Rd enc W 113 oC:=by
 intro n cs x h
 obtain ⟨xs,m,rfl,rfl,hlen,bS,hf⟩:=DataW.trod_struct Tryz.underlying113 h
 obtain ⟨a0,e0⟩:=dC (o:=0) hf bS 0 rfl cQ rfl rfl cF
 obtain ⟨a1,e1⟩:=dC (o:=1) hf bS 1 rfl sq rfl rfl js
 obtain ⟨a2,e2⟩:=dC (o:=3) hf bS 2 rfl cQ rfl rfl cF
 obtain ⟨a3,e3⟩:=dC (o:=4) hf bS 3 rfl cQ rfl rfl cF
 obtain ⟨a4,e4⟩:=dC (o:=5) hf bS 4 rfl cQ rfl rfl cF
 obtain ⟨a5,e5⟩:=dC (o:=6) hf bS 5 rfl (il (ec:=iP) Tryz.underlying37 js (by decide) (fun _=>rfl) (fun _=>rfl) sq) rfl rfl PT
 exact⟨⟨a0,a1,a2,a3,a4,a5⟩,fin (cat e0 (cat e1 (cat e2 (cat e3 (cat e4 e5))))) (hlen.trans K1)⟩
theorem ae4:Tryz.prog.cellsOf 36=1:=by kernel_rfl
theorem PZ:Tryz.prog.cellsOf 60=3:=by kernel_rfl
theorem asr:Rd enc W 60 mL:=by
 intro n cs x h
 obtain ⟨xs,m,rfl,rfl,hlen,bS,hf⟩:=DataW.trod_struct Tryz.underlying60 h
 obtain ⟨a0,e0⟩:=dC (o:=0) hf bS 0 rfl cQ rfl rfl cF
 obtain ⟨a1,e1⟩:=dC (o:=1) hf bS 1 rfl sq rfl rfl js
 exact⟨⟨a0,a1⟩,fin (cat e0 e1) (hlen.trans PZ)⟩
theorem ae5:Tryz.prog.cellsOf 38=1:=by kernel_rfl
theorem PU:Tryz.prog.cellsOf 40=5:=by kernel_rfl
theorem asl:Rd enc W 40 xn:=by
 intro n cs x h
 obtain ⟨xs,m,rfl,rfl,hlen,bS,hf⟩:=DataW.trod_struct Tryz.underlying40 h
 obtain ⟨a0,e0⟩:=dC (o:=0) hf bS 0 rfl cQ rfl rfl cF
 obtain ⟨a1,e1⟩:=dC (o:=1) hf bS 1 rfl (il (ec:=oB) Tryz.underlying35 K2 (by decide) (fun _=>rfl) (fun _=>rfl) aoj) rfl rfl ae3
 obtain ⟨a2,e2⟩:=dC (o:=2) hf bS 2 rfl (il (ec:=oC) Tryz.underlying36 K1 (by decide) (fun _=>rfl) (fun _=>rfl) aoi) rfl rfl ae4
 obtain ⟨a3,e3⟩:=dC (o:=3) hf bS 3 rfl (il (ec:=iP) Tryz.underlying37 js (by decide) (fun _=>rfl) (fun _=>rfl) sq) rfl rfl PT
 obtain ⟨a4,e4⟩:=dC (o:=4) hf bS 4 rfl (il (ec:=mL) Tryz.underlying38 PZ (by decide) (fun _=>rfl) (fun _=>rfl) asr) rfl rfl ae5
 exact⟨⟨a0,a1,a2,a3,a4⟩,fin (cat e0 (cat e1 (cat e2 (cat e3 e4)))) (hlen.trans PU)⟩
theorem PV:Tryz.prog.cellsOf 42=4:=by kernel_rfl
theorem asm:Rd enc W 42 zp:=by
 intro n cs x h
 obtain ⟨xs,m,rfl,rfl,hlen,bS,hf⟩:=DataW.trod_struct Tryz.underlying42 h
 obtain ⟨a0,e0⟩:=dC (o:=0) hf bS 0 rfl cQ rfl rfl cF
 obtain ⟨a1,e1⟩:=dC (o:=1) hf bS 1 rfl cQ rfl rfl cF
 obtain ⟨a2,e2⟩:=dC (o:=2) hf bS 2 rfl cQ rfl rfl cF
 obtain ⟨a3,e3⟩:=dC (o:=3) hf bS 3 rfl cQ rfl rfl cF
 exact⟨⟨a0,a1,a2,a3⟩,fin (cat e0 (cat e1 (cat e2 e3))) (hlen.trans PV)⟩
theorem K4:Tryz.prog.cellsOf 161=4:=by kernel_rfl
theorem aol:Rd enc W 161 oF:=by
 intro n cs x h
 obtain ⟨xs,m,rfl,rfl,hlen,bS,hf⟩:=DataW.trod_struct Tryz.underlying161 h
 obtain ⟨a0,e0⟩:=dC (o:=0) hf bS 0 rfl sq rfl rfl js
 obtain ⟨a1,e1⟩:=dC (o:=2) hf bS 1 rfl sq rfl rfl js
 exact⟨⟨a0,a1⟩,fin (cat e0 e1) (hlen.trans K4)⟩
theorem ae8:Tryz.prog.cellsOf 61=1:=by kernel_rfl
theorem P0:Tryz.prog.cellsOf 63=3:=by kernel_rfl
theorem ass:Rd enc W 63 pI:=by
 intro n cs x h
 obtain ⟨xs,m,rfl,rfl,hlen,bS,hf⟩:=DataW.trod_struct Tryz.underlying63 h
 obtain ⟨a0,e0⟩:=dC (o:=0) hf bS 0 rfl Zi rfl rfl D9
 obtain ⟨a1,e1⟩:=dC (o:=1) hf bS 1 rfl cQ rfl rfl cF
 obtain ⟨a2,e2⟩:=dC (o:=2) hf bS 2 rfl (il (ec:=oF) Tryz.underlying61 K4 (by decide) (fun _=>rfl) (fun _=>rfl) aol) rfl rfl ae8
 exact⟨⟨a0,a1,a2⟩,fin (cat e0 (cat e1 e2)) (hlen.trans P0)⟩
theorem ae6:Tryz.prog.cellsOf 43=1:=by kernel_rfl
theorem PW:Tryz.prog.cellsOf 45=2:=by kernel_rfl
theorem asn:Rd enc W 45 zq:=by
 intro n cs x h
 obtain ⟨xs,m,rfl,rfl,hlen,bS,hf⟩:=DataW.trod_struct Tryz.underlying45 h
 obtain ⟨a0,e0⟩:=dC (o:=0) hf bS 0 rfl cQ rfl rfl cF
 obtain ⟨a1,e1⟩:=dC (o:=1) hf bS 1 rfl cQ rfl rfl cF
 exact⟨⟨a0,a1⟩,fin (cat e0 e1) (hlen.trans PW)⟩
theorem PX:Tryz.prog.cellsOf 47=2:=by kernel_rfl
theorem aso:Rd enc W 47 zn:=by
 intro n cs x h
 obtain ⟨xs,m,rfl,rfl,hlen,bS,hf⟩:=DataW.trod_struct Tryz.underlying47 h
 obtain ⟨a0,e0⟩:=dC (o:=0) hf bS 0 rfl cQ rfl rfl cF
 obtain ⟨a1,e1⟩:=dC (o:=1) hf bS 1 rfl cQ rfl rfl cF
 exact⟨⟨a0,a1⟩,fin (cat e0 e1) (hlen.trans PX)⟩
theorem ae7:Tryz.prog.cellsOf 49=35:=by kernel_rfl
theorem asp:Rd enc W 49 pJ:=by
 intro n cs x h
 obtain ⟨xs,m,rfl,rfl,hlen,bS,hf⟩:=DataW.trod_struct Tryz.underlying49 h
 obtain ⟨a0,e0⟩:=dC (o:=0) hf bS 0 rfl ash rfl rfl PM
 obtain ⟨a1,e1⟩:=dC (o:=4) hf bS 1 rfl asi rfl rfl PR
 obtain ⟨a2,e2⟩:=dC (o:=15) hf bS 2 rfl cQ rfl rfl cF
 obtain ⟨a3,e3⟩:=dC (o:=16) hf bS 3 rfl cQ rfl rfl cF
 obtain ⟨a4,e4⟩:=dC (o:=17) hf bS 4 rfl sq rfl rfl js
 obtain ⟨a5,e5⟩:=dC (o:=19) hf bS 5 rfl asj rfl rfl PS
 obtain ⟨a6,e6⟩:=dC (o:=21) hf bS 6 rfl asl rfl rfl PU
 obtain ⟨a7,e7⟩:=dC (o:=26) hf bS 7 rfl asm rfl rfl PV
 obtain ⟨a8,e8⟩:=dC (o:=30) hf bS 8 rfl (il (ec:=pI) Tryz.underlying43 P0 (by decide) (fun _=>rfl) (fun _=>rfl) ass) rfl rfl ae6
 obtain ⟨a9,e9⟩:=dC (o:=31) hf bS 9 rfl asn rfl rfl PW
 obtain ⟨a10,WC⟩:=dC (o:=33) hf bS 10 rfl aso rfl rfl PX
 exact⟨⟨a0,a1,a2,a3,a4,a5,a6,a7,a8,a9,a10⟩,fin (cat e0 (cat e1 (cat e2 (cat e3 (cat e4 (cat e5 (cat e6 (cat e7 (cat e8 (cat e9 WC)))))))))) (hlen.trans ae7)⟩
theorem aeU {v:Value}{d:DataW H}{ps:List MemPlace}{base:Nat} (hv:Value.okWide Tryz.prog W .any base 3 v) (h:DataW.Trod enc Tryz.prog W 0 (fun _=>true) true 3 v d ps) :
  ∃ n:Int,aW (qG W) gO eV (.int .i64 n) v:=by
 obtain ⟨n,hn⟩:=h
 obtain ⟨a,e,_⟩:=DataW.trod_int Tryz.underlying3 hn
 cases v with
 |int k m=>simp[Value.cells]at e;obtain ⟨rfl,rfl⟩:=e;exact⟨m,.int _ _⟩
 |agg cs=>simp[Value.okWide,Cell.okWide,Cell.ok,Tryz.underlying3]at hv
 |_=>simp[Value.cells]at e
theorem So {α:Type}{ec:α→List D}{t:TypeId}{fs:Array Field} (hu:Tryz.prog.underlying t=some (.struct fs)) (hr:Rd enc W t ec) {v:Value}{d:DataW H}{ps:List MemPlace}{base:Nat} (hv:Value.okWide Tryz.prog W .any base t v) (h:DataW.Trod enc Tryz.prog W 0 (fun _=>true) true t v d ps) :
  ∃ c:α,aW (qG W) gO eV (.agg (ec c)) v:=by
 simp only[Value.okWide,hu]at hv
 obtain ⟨cs,rfl,_⟩:=hv
 obtain ⟨n,hn⟩:=h
 obtain ⟨c,hc⟩:=hr _ _ _ hn
 have:=aW.agg _ _ hc
 simp[Value.cells]at this
 exact⟨c,this⟩
theorem Z5 {v:Value}{d:DataW H}{ps:List MemPlace}{base:Nat} (hv:Value.okWide Tryz.prog W .any base 50 v) (h:DataW.Trod enc Tryz.prog W 0 (fun _=>true) true 50 v d ps) :
  ∃ l:List Int,aW (qG W) gO eV (DP 1 Da l) v:=by
 obtain ⟨n,hn⟩:=h
 obtain ⟨l,hl⟩:=il (ec:=Da) Tryz.underlying50 cF (by decide) (fun _=>rfl) (fun _=>rfl) cQ _ _ _ hn
 obtain ⟨a0,len,cap,rfl⟩:=okWide_slice Tryz.underlying50 hv
 cases hl with
 |cons _ _ _ _ k _=>exact⟨l,k⟩
end
theorem aa1 {κ:Nat→Nat→Option Value}{γ:Nat→Nat}{sv:Nat→Value}{W:World}{base:Nat}{v:Value}{l:List Int} (hv:Value.okWide Tryz.prog W .any base 50 v) (h:aW κ γ sv (DP 1 Da l) v):l.length≤9223372036854775807:=by
 unfold DP at h
 generalize hn:l.length=n at h
 cases h with
 |lI=>omega
 |kV=>omega
 |sl _ _ _ b off cap u hc =>
  simp only[Value.okWide,Cell.okWide,Cell.ok,Tryz.underlying50]at hv
  have h1:=hv.2.1
  have h2:IntKind.i64.max=9223372036854775807:=by decide
  rw[h2]at h1
  omega
end Go.Proofs.YtbhjjkekphpldaaGreatDoor
