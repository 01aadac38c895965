/- Walks by computing: what each function of the program that the laws reach gives for what it gets, as plain Lean, and that it is so; without a condition but those that stand in each theorem. -/
import Derived.Test.YtbhjjkekphpldaaGreatDoorCards
import Derived.Test.YtbhjjkekphpldaaGreatDoorTie
import Derived.WalkKit
import Derived.ProofKit
import Derived.OpenShut
import Derived.Deep.Slices
import Derived.Deep.DeepHandedRow
import Derived.Lib.LaidTab
import Derived.Shelf.Vars
import Derived.Test.YtbhjjkekphpldaaGreatDoorW1
import Derived.Test.YtbhjjkekphpldaaGreatDoorW2
import Derived.Test.YtbhjjkekphpldaaGreatDoorW3
import Derived.Test.YtbhjjkekphpldaaGreatDoorW4
import Derived.Test.YtbhjjkekphpldaaGreatDoorW5
import Derived.Test.YtbhjjkekphpldaaGreatDoorW6
import Derived.Test.YtbhjjkekphpldaaGreatDoorW7
import Derived.Test.YtbhjjkekphpldaaGreatDoorW8
import Derived.Test.YtbhjjkekphpldaaGreatDoorW9
import Derived.Test.YtbhjjkekphpldaaGreatDoorW10
import Derived.Test.YtbhjjkekphpldaaGreatDoorW11
import Derived.Test.YtbhjjkekphpldaaGreatDoorW12
import Derived.Test.YtbhjjkekphpldaaGreatDoorW13
import Derived.Test.YtbhjjkekphpldaaGreatDoorW14
import Derived.Test.YtbhjjkekphpldaaGreatDoorW15
import Derived.Test.YtbhjjkekphpldaaGreatDoorW16
import Derived.Test.YtbhjjkekphpldaaGreatDoorW17
set_option linter.all false
namespace Go.Proofs.YtbhjjkekphpldaaGreatDoor
open Go Go.Ab Go.ChangeShapes Go.WideShapes Go.ChangeAt Go.RowKit
set_option maxRecDepth 100000
def allK (w:World):Nat→Nat→Option Value:=fun b o=>w.cell? ⟨b,o,none⟩
theorem allK_fits (w:World):Fits (allK w) w:=fun _ _ _ h=>h
theorem lv_tail {W:World}{x:String×DataW Unit}{r:List (String×DataW Unit)}{ps:List MemPlace} (h:DataW.LaidVars Tryz.prog W (x::r) ps):∃ q,DataW.LaidVars Tryz.prog W r q:=by
 obtain ⟨g,t,cs,fuel,p,q,_,_,_,_,h2,_⟩:=h
 exact⟨q,h2⟩
theorem gl_ok {W:World}{name:String}{g:Nat}{cs:Array Value}{l:List D}{u:List Value} (hg:Tryz.prog.globalNamed name=some g) (hvar:W.var? Tryz.prog name=some cs) (hu:cs.toList=u) (hl:allCell l=true) (hr:RepL (allK W) γ0 sv0 l u) :
  allCell l=true∧∃ u,RepL (allK W) γ0 sv0 l u∧∀ j v,u[j]?=some v→allK W g j=some v :=
 ⟨hl,u,hr,fun j v hj=>by
  have:W.cell? ⟨g,j,none⟩=cs[j]?:=World.var?_cell hg hvar j
  show W.cell? ⟨g,j,none⟩=some v
  rw[this,← hj,← hu];simp⟩
theorem rowSz_of {W:World}{name:String}{g:Nat}{cs:Array Value} (hg:Tryz.prog.globalNamed name=some g) (hvar:W.var? Tryz.prog name=some cs):RowSz W g cs.size:=by
 simp only[World.var?,hg,Option.bind_some]at hvar
 split at hvar
 ·rename_i c t f h
  simp only[Option.some.injEq]at hvar
  subst hvar
  exact⟨c,t,f,h,rfl⟩
 ·cases hvar
theorem repL_int {κ:Nat→Nat→Option Value}{γ:Nat→Nat}{sv:Nat→Value} (k:IntKind):∀ zs:List Int,RepL κ γ sv (zs.map (D.int k)) (zs.map (Value.int k))
 |[]=>.nil
 |z::zs=>.cons _ _ _ _ (.int k z) (repL_int k zs)
theorem cells3:Tryz.prog.cellsOf 3=1:=by kernel_rfl
theorem cells9:Tryz.prog.cellsOf 9=1:=by kernel_rfl
theorem cells72:Tryz.prog.cellsOf 72=1:=by kernel_rfl
theorem cells290:Tryz.prog.cellsOf 290=20:=by kernel_rfl
def pow10s:List Int:=[1,10,100,1000,10000,100000,1000000,10000000,100000000,1000000000,10000000000,100000000000,1000000000000,10000000000000,100000000000000,1000000000000000,10000000000000000,100000000000000000,1000000000000000000,10000000000000000000]
section
variable {W:World}{ps:List MemPlace}{r:List (String×DataW Unit)}
theorem pow_at (h : DataW.LaidVars Tryz.prog W (("internal/strconv.uint64pow10", Rows.laid_internal_strconv_uint64pow10) :: r) ps) : ∃ cs, W.var? Tryz.prog "internal/strconv.uint64pow10" = some cs ∧ cs.toList = pow10s.map (Value.int .u64) := by
 obtain ⟨g,t,cs,fuel,p,q,hg,ht,hvar,hd,_,_⟩:=h
 have hg0 : Tryz.prog.globalNamed "internal/strconv.uint64pow10" = some 4 := by kernel_rfl
 have ht0:(Tryz.prog.globals[4]?).map (·.type)=some 290:=by kernel_rfl
 obtain rfl:=Option.some.inj (hg0.symm.trans hg)
 obtain rfl:=Option.some.inj (ht0.symm.trans ht)
 exact⟨cs,hvar,Lib.cells_of_tab (zs:=pow10s) Tryz.underlying290 Tryz.underlying72 cells72 cells290 hd⟩
end
theorem cells404:Tryz.prog.cellsOf 404=2:=by kernel_rfl
theorem cells405:Tryz.prog.cellsOf 405=8:=by kernel_rfl
theorem cells282:Tryz.prog.cellsOf 282=4:=by kernel_rfl
section
variable {W:World}{ps:List MemPlace}{r:List (String×DataW Unit)}
theorem cases_at (h : DataW.LaidVars Tryz.prog W (("sastrugi/convoy.cases", Rows.laid_sastrugi_convoy_cases) :: r) ps) : ∃ cs, W.var? Tryz.prog "sastrugi/convoy.cases" = some cs ∧ cs.toList = [0, 0, 1, 0, 0, 1, 1, 1].map (Value.int .i64) := by
 obtain ⟨g,t,cs,fuel,p,q,hg,ht,hvar,hd,_,_⟩:=h
 have hg0 : Tryz.prog.globalNamed "sastrugi/convoy.cases" = some 8 := by kernel_rfl
 have ht0:(Tryz.prog.globals[8]?).map (·.type)=some 405:=by kernel_rfl
 obtain rfl:=Option.some.inj (hg0.symm.trans hg)
 obtain rfl:=Option.some.inj (ht0.symm.trans ht)
 obtain ⟨xs,m,rfl,hx,hlen,hxl,he⟩:=DataW.trod_array Tryz.underlying405 hd
 have hx1:=congrArg Prod.fst hx
 simp only[Rows.laid_sastrugi_convoy_cases,DataW.agg.injEq]at hx1
 rw[cells405]at hlen
 rw[cells404]at he
 have row:∀ i a b,i<4→(xs.map (·.1))[i]?=some (.agg [.lit (.int .i64 a),.lit (.int .i64 b)])→(cs.toList.drop (i * 2)).take 2=[Value.int .i64 a,Value.int .i64 b]:=fun i a b hi hi2=>by
  rw[List.getElem?_map]at hi2
  obtain ⟨y,hy,hy2⟩:=Option.map_eq_some_iff.1 hi2
  have h1:=he i hi
  rw[hy]at h1
  obtain ⟨d,p'⟩:=y
  simp only at hy2
  subst hy2
  exact Lib.cells_of_tab (zs:=[a,b]) Tryz.underlying404 Tryz.underlying3 cells3 cells404 h1
 rw[← hx1]at row
 have r0:=row 0 0 0 (by decide) rfl
 have r1:=row 1 1 0 (by decide) rfl
 have r2:=row 2 0 1 (by decide) rfl
 have r3:=row 3 1 1 (by decide) rfl
 refine ⟨cs,hvar,?_⟩
 generalize cs.toList=l at hlen r0 r1 r2 r3
 rcases l with _|⟨c0,_|⟨c1,_|⟨c2,_|⟨c3,_|⟨c4,_|⟨c5,_|⟨c6,_|⟨c7,_|⟨c8,l⟩⟩⟩⟩⟩⟩⟩⟩⟩<;>simp at hlen
 simp at r0 r1 r2 r3
 obtain ⟨rfl,rfl⟩:=r0
 obtain ⟨rfl,rfl⟩:=r1
 obtain ⟨rfl,rfl⟩:=r2
 obtain ⟨rfl,rfl⟩:=r3
 rfl
theorem told_at (h : DataW.LaidVars Tryz.prog W (("sastrugi/road.told", Rows.laid_sastrugi_road_told) :: r) ps) : ∃ cs, W.var? Tryz.prog "sastrugi/road.told" = some cs ∧ cs.toList = [.string ⟨#[]⟩, .string ⟨#[115, 117, 114, 101]⟩, .string ⟨#[110, 101, 118, 101, 114]⟩, .string ⟨#[111, 112, 101, 110]⟩] := by
 obtain ⟨g,t,cs,fuel,p,q,hg,ht,hvar,hd,_,_⟩:=h
 have hg0 : Tryz.prog.globalNamed "sastrugi/road.told" = some 3 := by kernel_rfl
 have ht0:(Tryz.prog.globals[3]?).map (·.type)=some 282:=by kernel_rfl
 obtain rfl:=Option.some.inj (hg0.symm.trans hg)
 obtain rfl:=Option.some.inj (ht0.symm.trans ht)
 obtain ⟨xs,m,rfl,hx,hlen,hxl,he⟩:=DataW.trod_array Tryz.underlying282 hd
 have hx1:=congrArg Prod.fst hx
 simp only[Rows.laid_sastrugi_road_told,DataW.agg.injEq]at hx1
 rw[cells282]at hlen
 rw[cells9]at he
 have row:∀ i (b:List UInt8),i<4→(xs.map (·.1))[i]?=some (.lit (.string b))→(cs.toList.drop (i * 1)).take 1=[Value.string ⟨b.toArray⟩]:=fun i b hi hi2=>by
  rw[List.getElem?_map]at hi2
  obtain ⟨y,hy,hy2⟩:=Option.map_eq_some_iff.1 hi2
  have h1:=he i hi
  rw[hy]at h1
  obtain ⟨d,p'⟩:=y
  simp only at hy2
  subst hy2
  obtain ⟨s,e1,e2,_⟩:=DataW.trod_string Tryz.underlying9 h1
  rw[e1]
  have e3:=congrArg Prod.fst e2
  simp only[DataW.lit.injEq,Lit.string.injEq]at e3
  subst e3
  simp
 rw[← hx1]at row
 have r0:=row 0 [] (by decide) rfl
 have r1:=row 1 [115,117,114,101] (by decide) rfl
 have r2:=row 2 [110,101,118,101,114] (by decide) rfl
 have r3:=row 3 [111,112,101,110] (by decide) rfl
 refine ⟨cs,hvar,?_⟩
 generalize cs.toList=l at hlen r0 r1 r2 r3
 rcases l with _|⟨c0,_|⟨c1,_|⟨c2,_|⟨c3,_|⟨c4,l⟩⟩⟩⟩⟩<;>simp at hlen
 simp at r0 r1 r2 r3
 subst r0 r1 r2 r3
 rfl
theorem reasons_at (h : DataW.LaidVars Tryz.prog W (("sastrugi/road.reasons", Rows.laid_sastrugi_road_reasons) :: r) ps) : ∃ cs, W.var? Tryz.prog "sastrugi/road.reasons" = some cs ∧ cs.toList = [.string ⟨#[]⟩, .string ⟨#[116, 104, 105, 110]⟩, .string ⟨#[109, 97, 114, 107]⟩, .string ⟨#[115, 116, 97, 108, 101]⟩] := by
 obtain ⟨g,t,cs,fuel,p,q,hg,ht,hvar,hd,_,_⟩:=h
 have hg0 : Tryz.prog.globalNamed "sastrugi/road.reasons" = some 5 := by kernel_rfl
 have ht0:(Tryz.prog.globals[5]?).map (·.type)=some 282:=by kernel_rfl
 obtain rfl:=Option.some.inj (hg0.symm.trans hg)
 obtain rfl:=Option.some.inj (ht0.symm.trans ht)
 obtain ⟨xs,m,rfl,hx,hlen,hxl,he⟩:=DataW.trod_array Tryz.underlying282 hd
 have hx1:=congrArg Prod.fst hx
 simp only[Rows.laid_sastrugi_road_reasons,DataW.agg.injEq]at hx1
 rw[cells282]at hlen
 rw[cells9]at he
 have row:∀ i (b:List UInt8),i<4→(xs.map (·.1))[i]?=some (.lit (.string b))→(cs.toList.drop (i * 1)).take 1=[Value.string ⟨b.toArray⟩]:=fun i b hi hi2=>by
  rw[List.getElem?_map]at hi2
  obtain ⟨y,hy,hy2⟩:=Option.map_eq_some_iff.1 hi2
  have h1:=he i hi
  rw[hy]at h1
  obtain ⟨d,p'⟩:=y
  simp only at hy2
  subst hy2
  obtain ⟨s,e1,e2,_⟩:=DataW.trod_string Tryz.underlying9 h1
  rw[e1]
  have e3:=congrArg Prod.fst e2
  simp only[DataW.lit.injEq,Lit.string.injEq]at e3
  subst e3
  simp
 rw[← hx1]at row
 have r0:=row 0 [] (by decide) rfl
 have r1:=row 1 [116,104,105,110] (by decide) rfl
 have r2:=row 2 [109,97,114,107] (by decide) rfl
 have r3:=row 3 [115,116,97,108,101] (by decide) rfl
 refine ⟨cs,hvar,?_⟩
 generalize cs.toList=l at hlen r0 r1 r2 r3
 rcases l with _|⟨c0,_|⟨c1,_|⟨c2,_|⟨c3,_|⟨c4,l⟩⟩⟩⟩⟩<;>simp at hlen
 simp at r0 r1 r2 r3
 subst r0 r1 r2 r3
 rfl
end
theorem nn_of {H:Type}{enc:TypeId×Value→H}{P:Program}{w:World}{base:Nat}{spare:Nat→Bool}{held:Bool}{fuel:Nat}{t:TypeId}{ms:Array (String×TypeId)}{cs:List Value}{name:String}{d:DataW H}{ps:List MemPlace}
  (ht:P.underlying t=some (.interface ms)) (h:DataW.trod enc P w base spare held fuel t cs=some (.iface name d,ps)):∃ u v,cs=[.iface u v]:=by
 cases fuel with
 |zero=>simp[DataW.trod]at h
 |succ n =>
  rcases cs with _|⟨v,_|⟨v2,r⟩⟩
  ·simp[DataW.trod,ht]at h
  ·cases v with
   |iface u v=>exact⟨u,v,rfl⟩
   |_=>simp[DataW.trod,ht]at h
  ·simp[DataW.trod,ht]at h
section
variable {W:World}{ps:List MemPlace}{r:List (String×DataW Unit)}
theorem er_at {name:String}{n:Nat}{nm:String}{d:DataW Unit} (hg0:Tryz.prog.globalNamed name=some n) (ht0:(Tryz.prog.globals[n]?).map (·.type)=some 181) (h:DataW.LaidVars Tryz.prog W ((name,.iface nm d)::r) ps):∃ cs u v,W.var? Tryz.prog name=some cs∧cs.toList=[.iface u v]:=by
 obtain ⟨g,t,cs,fuel,p,q,hg,ht,hvar,hd,_,_⟩:=h
 obtain rfl:=Option.some.inj (hg0.symm.trans hg)
 obtain rfl:=Option.some.inj (ht0.symm.trans ht)
 obtain ⟨u,v,e⟩:=nn_of Tryz.underlying181 hd
 exact⟨cs,u,v,hvar,e⟩
end
theorem glob_of {W : World} (h : laidMetH Tryz.prog [("math/bits.deBruijn32tab", Rows.laid_math_bits_deBruijn32tab), ("math/bits.deBruijn64tab", Rows.laid_math_bits_deBruijn64tab), ("internal/strconv.uint64pow10", Rows.laid_internal_strconv_uint64pow10), ("unicode/utf8.acceptRanges", Rows.laid_unicode_utf8_acceptRanges), ("strconv.ErrRange", Rows.laid_strconv_ErrRange), ("strconv.ErrSyntax", Rows.laid_strconv_ErrSyntax), ("sastrugi/convoy.cases", Rows.laid_sastrugi_convoy_cases), ("sastrugi/road.told", Rows.laid_sastrugi_road_told), ("sastrugi/road.reasons", Rows.laid_sastrugi_road_reasons), ("unicode/utf8.first", Rows.laid_unicode_utf8_first)] W) (hsh : W.ShapedOpen Tryz.prog) : GlobOk iseat.toSeat (allK W) W := by
 have h' : laidMet Tryz.prog [("math/bits.deBruijn32tab", Rows.laid_math_bits_deBruijn32tab), ("math/bits.deBruijn64tab", Rows.laid_math_bits_deBruijn64tab), ("internal/strconv.uint64pow10", Rows.laid_internal_strconv_uint64pow10), ("unicode/utf8.acceptRanges", Rows.laid_unicode_utf8_acceptRanges), ("strconv.ErrRange", Rows.laid_strconv_ErrRange), ("strconv.ErrSyntax", Rows.laid_strconv_ErrSyntax), ("sastrugi/convoy.cases", Rows.laid_sastrugi_convoy_cases), ("sastrugi/road.told", Rows.laid_sastrugi_road_told), ("sastrugi/road.reasons", Rows.laid_sastrugi_road_reasons), ("unicode/utf8.first", Rows.laid_unicode_utf8_first)] W := h
 obtain ⟨ps,h0,_⟩:=h'
 obtain ⟨_,h1⟩:=lv_tail h0
 obtain ⟨_,h2⟩:=lv_tail h1
 obtain ⟨_,h3⟩:=lv_tail h2
 obtain ⟨_,h4⟩:=lv_tail h3
 obtain ⟨_,h5⟩:=lv_tail h4
 obtain ⟨_,h6⟩:=lv_tail h5
 obtain ⟨_,h7⟩:=lv_tail h6
 obtain ⟨_,h8⟩:=lv_tail h7
 obtain ⟨c2,v2,u2⟩:=pow_at h2
 obtain ⟨c7,t7,p7,v7,u7⟩:=er_at (n:=10) (by kernel_rfl) (by kernel_rfl) h4
 obtain ⟨c6,t6,p6,v6,u6⟩:=er_at (n:=9) (by kernel_rfl) (by kernel_rfl) h5
 obtain ⟨c8,v8,u8⟩:=cases_at h6
 obtain ⟨c3,v3,u3⟩:=told_at h7
 obtain ⟨c5,v5,u5⟩:=reasons_at h8
 obtain ⟨m,hm⟩:=cell_of_shapedOpen_int (g:=0) (t:=3) (zero:=#[.int .i64 0]) (k:=.i64) hsh (of_decide_eq_true (by kernel_rfl)) (by kernel_rfl) rfl (by kernel_rfl) (by kernel_rfl) Tryz.underlying3
 constructor
 ·intro g l hl
  have hl':globs g=some l:=hl
  unfold globs at hl'
  split at hl'
  ·simp only[Option.some.injEq]at hl'
   subst hl'
   refine ⟨rfl,[.int .i64 m],.cons _ _ _ _ (.lk _ _ ⟨m,rfl⟩) .nil,fun j v hj=>?_⟩
   rcases j with _|j
   ·cases hj;exact hm
   ·cases hj
  ·simp only[Option.some.injEq]at hl'
   subst hl'
   exact gl_ok (name := "sastrugi/road.told") (by kernel_rfl) v3 u3 rfl (.cons _ _ _ _ (.str _) (.cons _ _ _ _ (.str _) (.cons _ _ _ _ (.str _) (.cons _ _ _ _ (.str _) .nil))))
  ·simp only[Option.some.injEq]at hl'
   subst hl'
   exact gl_ok (name := "internal/strconv.uint64pow10") (by kernel_rfl) v2 u2 rfl (repL_int .u64 pow10s)
  ·simp only[Option.some.injEq]at hl'
   subst hl'
   exact gl_ok (name := "sastrugi/road.reasons") (by kernel_rfl) v5 u5 rfl (.cons _ _ _ _ (.str _) (.cons _ _ _ _ (.str _) (.cons _ _ _ _ (.str _) (.cons _ _ _ _ (.str _) .nil))))
  ·simp only[Option.some.injEq]at hl'
   subst hl'
   exact gl_ok (name := "sastrugi/convoy.cases") (by kernel_rfl) v8 u8 rfl (repL_int .i64 [0, 0, 1, 0, 0, 1, 1, 1])
  ·simp only[Option.some.injEq]at hl'
   subst hl'
   exact gl_ok (name := "strconv.ErrSyntax") (by kernel_rfl) v6 u6 rfl (.cons _ _ _ _ (.lk _ _ ⟨t6, p6, rfl⟩) .nil)
  ·simp only[Option.some.injEq]at hl'
   subst hl'
   exact gl_ok (name := "strconv.ErrRange") (by kernel_rfl) v7 u7 rfl (.cons _ _ _ _ (.lk _ _ ⟨t7, p7, rfl⟩) .nil)
  ·cases hl'
 ·intro g n hn
  have hn':gszs g=some n:=hn
  unfold gszs at hn'
  split at hn'
  ·simp only[Option.some.injEq]at hn'
   subst hn'
   have h5 := rowSz_of (name := "internal/strconv.uint64pow10") (g := 4) (by kernel_rfl) v2
   have h6:c2.size=20:=by
    have:=congrArg List.length u2
    simpa[pow10s] using this
   rw[h6]at h5
   exact h5
  ·cases hn'
theorem laidOut:laidOutB Tryz.prog=true:=by kernel_rfl
theorem own:ownKnob Tryz.prog.godebug=none:=by kernel_rfl
theorem trodAll_stays {H:Type}{enc:TypeId×Value→H}{W W':World}{sp':Nat→Bool} (hb:Below W.heap.size W W'):∀ {ts:List TypeId}{vs:List Value}{ds:List (DataW H)}{ps:List MemPlace},
  (∀ t∈ts,Tryz.prog.readableRec t=true∧t<Tryz.prog.types.size)→DataW.TrodAll enc Tryz.prog W 0 (fun _=>true) true ts vs ds ps→(∀ p∈ps,p.block<W.heap.size)→(∀ p∈ps,sp' p.block=true) →
  DataW.TrodAll enc Tryz.prog W' 0 sp' true ts vs ds ps
 |[],[],[],_,_,h,_,_=>h
 |_::_,_::_,_::_,_,hT,⟨p,q,h1,h2,e⟩,hlt,hs=>⟨p,q,
   WideElems.Trod_stays laidOut (hT _ (List.mem_cons_self ..)).1 (hT _ (List.mem_cons_self ..)).2 h1 (fun x hx=>hb.same (hlt x (by rw[e];exact List.mem_append_left _ hx))) (fun x hx=>hs x (by rw[e];exact List.mem_append_left _ hx)),
   trodAll_stays hb (fun t ht=>hT t (List.mem_cons_of_mem _ ht)) h2 (fun x hx=>hlt x (by rw[e];exact List.mem_append_right _ hx)) (fun x hx=>hs x (by rw[e];exact List.mem_append_right _ hx)),e⟩
theorem post_yes {H:Type}{enc:TypeId×Value→H}{f:Func}{s:ChangeSpec}{W W':World}{args:Array Value}{ds gs:List (DataW H)}{before:List MemPlace}
  (hW:DataW.Whole enc Tryz.prog f.params.toList s.vars false W args.toList ds gs before) (hv:s.vars=[]) (hb:Below W.heap.size W W')
  (hT:∀ t∈f.params.toList,Tryz.prog.readableRec t=true∧t<Tryz.prog.types.size) (hrt:f.resultTypes=#[4])
  (hr:(s.fn H (ds++gs)).results=[.lit (.bool true)]) (ha:(s.fn H (ds++gs)).args=ds) (hvs:(s.fn H (ds++gs)).vars=[]) :
  s.post enc Tryz.prog f false true false false W args (.bool true) W':=by
 have hlt:=hW.lt
 have hW2:=hW
 obtain ⟨p,q,hA,hV,rfl,_,_⟩:=hW
 rw[hv]at hV
 obtain ⟨rfl,rfl⟩:=trodVars_none hV
 refine ⟨ds,[],p++[],[],p,[],hW2,?_,?_,?_,hb.frame _,fun h=>by cases h⟩
 ·rw[hr,hrt]
  exact trodAll_mk1 (shut_bool Tryz.underlying4 _)
 ·rw[ha]
  exact trodAll_stays hb hT hA (fun x hx=>hlt x (by simpa using hx)) (fun x hx=>by simpa using hlt x (by simpa using hx))
 ·rw[hvs,hv];rfl
def layV (l:List Value):Obj→Obj
 |.cells _ t frozen=>.cells l.toArray t frozen
 |o=>o
def deB32:List Int:=[0,1,28,2,29,14,24,3,30,22,20,15,25,17,4,8,31,27,13,23,21,19,16,7,26,12,18,6,11,5,10,9]
def deB64:List Int:=[0,1,56,2,57,49,28,3,61,58,42,50,38,29,17,4,62,47,59,36,45,43,51,22,53,39,33,30,24,18,12,5,63,55,48,27,60,41,37,16,46,35,44,21,52,32,23,11,54,26,40,15,34,20,31,10,25,14,19,9,13,8,7,6]
def acc:List Int:=[128,191,160,191,128,159,144,191,128,143,0,0,0,0,0,0,0,0,0,0,0,0,0,0,0,0,0,0,0,0,0,0]
def rangeS:ByteArray:=⟨#[118,97,108,117,101,32,111,117,116,32,111,102,32,114,97,110,103,101]⟩
def synS:ByteArray:=⟨#[105,110,118,97,108,105,100,32,115,121,110,116,97,120]⟩
noncomputable def low:Nat:=(World.holding Tryz.prog default ⟨#[],#[],[]⟩).heap.size
noncomputable def laidWorld (os:Os):World :=
 { World.holding Tryz.prog os ⟨#[.cells #[.string rangeS] 437,.cells #[.string synS] 437],#[],[]⟩ with heap:=(((((((((((World.holding Tryz.prog os ⟨#[.cells #[.string rangeS] 437,.cells #[.string synS] 437],#[],[]⟩).heap.modify 4 (layV (pow10s.map (Value.int .u64)))).modify 1 (layV (Go.Pinned.utf8FirstZ.map fun (n:Nat)=>Value.int .u8 (n:Int)))).modify 2 (layV (acc.map (Value.int .u8)))).modify 9 (layV ([.iface 435 (.pointer (some ⟨low+1,0,none⟩))]))).modify 10 (layV ([.iface 435 (.pointer (some ⟨low,0,none⟩))]))).modify 6 (layV (deB32.map (Value.int .u8)))).modify 7 (layV (deB64.map (Value.int .u8)))).modify 8 (layV ([0,0,1,0,0,1,1,1].map (Value.int .i64)))).modify 3 (layV ([.string ⟨#[]⟩,.string ⟨#[115,117,114,101]⟩,.string ⟨#[110,101,118,101,114]⟩,.string ⟨#[111,112,101,110]⟩]))).modify 5 (layV ([.string ⟨#[]⟩,.string ⟨#[116,104,105,110]⟩,.string ⟨#[109,97,114,107]⟩,.string ⟨#[115,116,97,108,101]⟩]))) }
end Go.Proofs.YtbhjjkekphpldaaGreatDoor
