/- 'sastrugilaw04.ConvoyTimes' returns true for every convoy, list of numbers, list of numbers, and what is given reads behind the call as it read before, without a condition: its tied card. -/
import Derived.Test.YtafnhieaeejlcaaDoorW1
import Derived.Test.YtafnhieaeejlcaaDoorW2
import Derived.Test.YtafnhieaeejlcaaDoorW3
import Derived.Test.YtafnhieaeejlcaaDoorW4
import Derived.Test.YtafnhieaeejlcaaDoorW5
import Derived.Test.YtafnhieaeejlcaaDoorW6
import Derived.Test.YtafnhieaeejlcaaDoorW7
import Derived.Test.YtafnhieaeejlcaaDoorW8
import Derived.Test.YtafnhieaeejlcaaDoorW9
import Derived.Test.YtafnhieaeejlcaaDoorW10
import Derived.Test.YtafnhieaeejlcaaDoorW11
import Derived.Test.YtafnhieaeejlcaaDoorW12
import Derived.Test.YtafnhieaeejlcaaDoorW13
import Derived.Test.YtafnhieaeejlcaaDoorW14
import Derived.Test.YtafnhieaeejlcaaDoorW15
import Derived.Test.YtafnhieaeejlcaaDoorW16
import Derived.Test.YtafnhieaeejlcaaDoorW17
import Derived.Test.YtafnhieaeejlcaaDoorW18
set_option linter.all false
/- 'sastrugilaw04.ConvoyTimes' returns true for every convoy, list of numbers, list of numbers, and what is given reads behind the call as it read before, without a condition: its tied card. -/
namespace Go.Proofs.Plain04
open Go Go.Ab
set_option linter.all false
set_option maxRecDepth 100000
theorem TJ(x0:Go.Proofs.YtafnhieaeejlcaaDoor.Convoy)(x1:List Int)(x2:List Int)(hx1:x1.length≤9223372036854775807)(hx2:x2.length≤9223372036854775807):au Go.Proofs.YtafnhieaeejlcaaDoor.cK 16 [.agg (Go.Proofs.YtafnhieaeejlcaaDoor.aI x0),lz 1 fy x1,lz 1 fy x2] (.bool true):=by
 have h:=bF (Z:=Go.Proofs.YtafnhieaeejlcaaDoor.ao) (ats:=[.Convoy, .sl (.int .i64), .sl (.int .i64)]) (ts:=[.bool]) (E:=SK) (fn:=Tryd.f16) (c:=aU Tryd.f16) Tryd.func16 (by kernel_rfl) (by kernel_rfl) (by kernel_rfl) (by kernel_rfl) rfl ((Th cH (nC x0) x1 x2).trans ((oR (nC x0) x1 x2).symm.trans (tp (nC x0) hx1 hx2))) zh zh
 have e:I.av zh (bY [.Convoy, .sl (.int .i64), .sl (.int .i64)] ((nC x0),x1,x2,()))=[.agg (Go.Proofs.YtafnhieaeejlcaaDoor.aI x0),lz 1 fy x1,lz 1 fy x2]:=by
  show[(fW .Convoy (nC x0)).b8 zh,lz 1 fy x1,lz 1 fy x2]=_
  rw[sR,L1]
 rw[e]at h
 exact h
end Go.Proofs.Plain04
namespace Go.Proofs.YtafnhieaeejlcaaDoor.convoyTimes
open Go Go.Ab Go.ChangeShapes Go.WideShapes Go.ChangeAt Go.RowKit
set_option maxRecDepth 100000
theorem Jo(H:Type)(enc:TypeId×Value→H)(W:World)(base:Nat)(args:Array Value)(ds gs:List (DataW H))(before:List MemPlace)
 (hval:∀(j:Nat) t v,Tryd.f16.params[j]? =some t→args[j]? =some v→Value.okWide Tryd.prog W .any base t v)
 (hW:DataW.Whole enc Tryd.prog Tryd.f16.params.toList Rows.convoyTimesSpec.vars false W args.toList ds gs before)(hL:laidMetH Tryd.prog Rows.convoyTimesRow.laid W):
 Calls Tryd.prog 16 args W fun e W' =>∃v,e= .returned v∧Rows.convoyTimesSpec.post enc Tryd.prog Tryd.f16 false true false false W args v W' :=by
 have hW' :=hW
 obtain⟨p,q,hA,hV,rfl,_,_⟩:=hW
 rw[Tryd.params16]at hA hval
 obtain⟨v0,vs0,d0,ds0,p0,q0,hargs,rfl,rfl,h0,r0⟩:=trodAll_cons hA
 obtain⟨v1,vs1,d1,ds1,p1,q1,e1,e2,e3,h1,r1⟩:=trodAll_cons r0
 subst e1 e2 e3
 obtain⟨v2,vs2,d2,ds2,p2,q2,e1,e2,e3,h2,r2⟩:=trodAll_cons r1
 subst e1 e2 e3
 obtain⟨rfl,rfl,rfl⟩:=trodAll_nil r2
 obtain rfl:args= #[v0,v1,v2]:=by cases args;simp_all
 obtain⟨rfl,rfl⟩:=trodVars_none hV
 obtain⟨x0,c0⟩:=DC (hval 0 24 v0 rfl rfl) h0
 obtain⟨x1,c1⟩:=Bi (hval 1 31 v1 rfl rfl) h1
 obtain⟨x2,c2⟩:=Bi (hval 2 31 v2 rfl rfl) h2
 refine((Go.Proofs.Plain04.TJ x0 x1 x2 (BC (hval 1 31 v1 rfl rfl) c1) (BC (hval 2 31 v2 rfl rfl) c2)).calls W (Ct W) [v0,v1,v2] (GL W) (KQ hL) (.cons _ _ _ _ c0 (.cons _ _ _ _ c1 (.cons _ _ _ _ c2 .nil)))).mono fun e W' ⟨v,he,hv,hb⟩=> ?_
 subst he
 cases hv
 exact⟨_,rfl,Jf hW' rfl hb (by rw[Tryd.params16];intro t ht;simp at ht;rcases ht with rfl|rfl|rfl<;>exact⟨by kernel_rfl,of_decide_eq_true (by kernel_rfl)⟩) (by kernel_rfl) rfl rfl rfl⟩
theorem J5(os:Os):laidMet Tryd.prog Rows.convoyTimesRow.laid ((sH os).forCall (fun _ _=>0) ⟨#[], #[QC, .slice none 0 0, .slice none 0 0],[]⟩).memory:=
 laidMet_of_run' 8 (by kernel_rfl) (by kernel_rfl)
theorem reads(os:Os){H:Type}(enc:TypeId×Value→H):∃places,DataW.whole enc Tryd.prog ((sH os).forCall (fun _ _=>0) ⟨#[], #[QC, .slice none 0 0, .slice none 0 0],[]⟩).memory Tryd.f16.params.toList Rows.convoyTimesSpec.vars false #[QC, .slice none 0 0, .slice none 0 0].toList 8=
 some ([.agg [.lit (.int .i64 0), .lit (.int .i64 0), .lit (.int .i64 0), .nil], .nil, .nil],[],places):=
 ⟨[],by kernel_rfl⟩
theorem lifted(os:Os)(started:os.Started)(H:Type)(enc:TypeId×Value→H)(F:Stop.Interp):
 ReturnsInHanded {} Tryd.checked os 16 .any ((OpenSpec.ofChange Rows.convoyTimesSpec).preRow enc Tryd.prog Tryd.f16 Rows.convoyTimesRow.domain false Rows.convoyTimesRow.laid) (((OpenSpec.ofChange Rows.convoyTimesSpec).at F).post enc Tryd.prog Tryd.f16 false true false false):=by
 obtain⟨places,hx⟩:=reads os enc
 refine returnsInHanded_of_row (C:=Tryd.checked) (s:=OpenSpec.ofChange Rows.convoyTimesSpec) own started (by kernel_rfl) Tryd.func16
  (witness_row_at (enc:=enc) (C:=Tryd.checked) false (sH os) #[QC, .slice none 0 0, .slice none 0 0] rfl (by kernel_rfl) (by kernel_rfl) (by kernel_rfl)
    (OpenSpec.preRow_of_cond 8 hx (by kernel_rfl) (fun k hk=>by cases hk) (by kernel_rfl) (J5 os))) ?_
 intro W base args ds gs before hval hW _ _ _ hL _ _
 exact Jo H enc W base args ds gs before hval hW hL
theorem said:Rows.ConvoyTimesSaid:=
 OpenClaim.holds_of_cond 16 Tryd.f16 rfl rfl rfl rfl rfl rfl rfl ⟨rfl,rfl,rfl,rfl,rfl⟩ rfl rfl rfl rfl rfl (by kernel_rfl) Tryd.func16 (by kernel_rfl)
  (of_decide_eq_true (by kernel_rfl)) (by unfold Func.isWrapper;first|(rw[if_pos (by decide+kernel)];kernel_rfl)|(rw[if_neg (by decide+kernel)];exact⟨rfl,rfl⟩))
  (fun os started H enc _ F=>by rw[OpenClaim.pre_eq_preRow];exact lifted os started H enc F)
theorem plain(f:FuncId)(fn:Func)(hf:Tryd.pinned.checked.prog.funcNamed "sastrugi/sastrugilaw04.ConvoyTimes" =some f)(hfn:Tryd.pinned.checked.prog.funcs[f]? =some fn):
 false=Tryd.pinned.checked.prog.looks []∧∀(j:Nat) t,fn.params[j]? =some t→Tryd.pinned.checked.prog.wantsStandIn t=false:=by
 obtain rfl:f=16:=Option.some.inj ((show Tryd.prog.funcNamed "sastrugi/sastrugilaw04.ConvoyTimes" =some 16 by kernel_rfl).symm.trans hf)|>.symm
 obtain rfl:fn=Tryd.f16:=(Option.some.inj (Tryd.func16.symm.trans hfn)).symm
 refine⟨by kernel_rfl,fun j t ht=> ?_⟩
 rw[Tryd.params16]at ht
 have ht' :t=24∨t=31∨t=31:=by simpa using Array.mem_of_getElem? ht
 rcases ht' with rfl|rfl|rfl
 ·exact(show Tryd.prog.wantsStandIn 24=false by kernel_rfl)
 ·exact(show Tryd.prog.wantsStandIn 31=false by kernel_rfl)
 ·exact(show Tryd.prog.wantsStandIn 31=false by kernel_rfl)
theorem card:Rows.ConvoyTimesCardSaid:=
 Claim7.holds_tied_plain_at .later [] _ _ _ _ said (fun _ h=>by cases h) (by kernel_rfl) (fun _ h=>by cases h) convoyTimes_row_tie rfl ⟨rfl,rfl⟩ (by kernel_rfl) rfl plain (by kernel_rfl)
end Go.Proofs.YtafnhieaeejlcaaDoor.convoyTimes
