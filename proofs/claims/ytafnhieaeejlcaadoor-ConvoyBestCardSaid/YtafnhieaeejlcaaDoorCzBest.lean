/- 'sastrugilaw04.ConvoyBest' returns true for every list of numbers, and what is given reads behind the call as it read before, without a condition: its tied card. -/
import Derived.Test.YtafnhieaeejlcaaDoorW1
import Derived.Test.YtafnhieaeejlcaaDoorW2
import Derived.Test.YtafnhieaeejlcaaDoorW3
import Derived.Test.YtafnhieaeejlcaaDoorW4
import Derived.Test.YtafnhieaeejlcaaDoorW5
import Derived.Test.YtafnhieaeejlcaaDoorW6
import Derived.Test.YtafnhieaeejlcaaDoorW7
import Derived.Test.YtafnhieaeejlcaaDoorW8
import Derived.Test.YtafnhieaeejlcaaDoorW9
import Derived.Test.YtafnhieaeejlcaaDoorW10
import Derived.Test.YtafnhieaeejlcaaDoorW11
import Derived.Test.YtafnhieaeejlcaaDoorW12
import Derived.Test.YtafnhieaeejlcaaDoorW13
import Derived.Test.YtafnhieaeejlcaaDoorW14
import Derived.Test.YtafnhieaeejlcaaDoorW15
import Derived.Test.YtafnhieaeejlcaaDoorW16
import Derived.Test.YtafnhieaeejlcaaDoorW17
import Derived.Test.YtafnhieaeejlcaaDoorW18
import Derived.Test.YtafnhieaeejlcaaDoorW19
set_option linter.all false
/- 'sastrugilaw04.ConvoyBest' returns true for every list of numbers, and what is given reads behind the call as it read before, without a condition: its tied card. -/
namespace Go.Proofs.Plain04
open Go Go.Ab
set_option linter.all false
set_option maxRecDepth 100000
theorem Tp(x0:List Int)(hx0:x0.length≤9223372036854775807):au Go.Proofs.YtafnhieaeejlcaaDoor.cJ 17 [oo 1 fU x0] (.bool true):=by
 have h:=bW (Z:=Go.Proofs.YtafnhieaeejlcaaDoor.av) (ats:=[.sl (.int .i64)]) (ts:=[.bool]) (E:=SM) (fn:=Tryd.f17) (c:=bb Tryd.f17) Tryd.func17 (by kernel_rfl) (by kernel_rfl) (by kernel_rfl) (by kernel_rfl) rfl ((Tm cS x0).trans ((qs x0).symm.trans (uG hx0))) zh zh
 have e:I.ao zh (b6 [.sl (.int .i64)] (x0,()))=[oo 1 fU x0]:=by
  rfl
 rw[e]at h
 exact h
end Go.Proofs.Plain04
namespace Go.Proofs.YtafnhieaeejlcaaDoor.convoyBest
open Go Go.Ab Go.ChangeShapes Go.WideShapes Go.ChangeAt Go.RowKit
set_option maxRecDepth 100000
theorem Jp(H:Type)(enc:TypeId×Value→H)(W:World)(base:Nat)(args:Array Value)(ds gs:List (DataW H))(before:List MemPlace)
 (hval:∀(j:Nat) t v,Tryd.f17.params[j]? =some t→args[j]? =some v→Value.okWide Tryd.prog W .any base t v)
 (hW:DataW.Whole enc Tryd.prog Tryd.f17.params.toList Rows.convoyBestSpec.vars false W args.toList ds gs before)(hL:laidMetH Tryd.prog Rows.convoyBestRow.laid W):
 Calls Tryd.prog 17 args W fun e W' =>∃v,e= .returned v∧Rows.convoyBestSpec.post enc Tryd.prog Tryd.f17 false true false false W args v W' :=by
 have hW' :=hW
 obtain⟨p,q,hA,hV,rfl,_,_⟩:=hW
 rw[Tryd.params17]at hA hval
 obtain⟨v0,vs0,d0,ds0,p0,q0,hargs,rfl,rfl,h0,r0⟩:=trodAll_cons hA
 obtain⟨rfl,rfl,rfl⟩:=trodAll_nil r0
 obtain rfl:args= #[v0]:=by cases args;simp_all
 obtain⟨rfl,rfl⟩:=trodVars_none hV
 obtain⟨x0,c0⟩:=JE (hval 0 31 v0 rfl rfl) h0
 refine((Go.Proofs.Plain04.Tp x0 (IV (hval 0 31 v0 rfl rfl) c0)).calls W (D6 W) [v0] (G7 W) (Lf hL) (.cons _ _ _ _ c0 .nil)).mono fun e W' ⟨v,he,hv,hb⟩=> ?_
 subst he
 cases hv
 exact⟨_,rfl,Jn hW' rfl hb (by rw[Tryd.params17];intro t ht;simp at ht;subst ht;exact⟨by kernel_rfl,of_decide_eq_true (by kernel_rfl)⟩) (by kernel_rfl) rfl rfl rfl⟩
theorem HO(os:Os):laidMet Tryd.prog Rows.convoyBestRow.laid ((tu os).forCall (fun _ _=>0) ⟨#[], #[.slice none 0 0],[]⟩).memory:=
 laidMet_of_run' 8 (by kernel_rfl) (by kernel_rfl)
theorem reads(os:Os){H:Type}(enc:TypeId×Value→H):∃places,DataW.whole enc Tryd.prog ((tu os).forCall (fun _ _=>0) ⟨#[], #[.slice none 0 0],[]⟩).memory Tryd.f17.params.toList Rows.convoyBestSpec.vars false #[.slice none 0 0].toList 8=
 some ([.nil],[],places):=
 ⟨[],by kernel_rfl⟩
theorem lifted(os:Os)(started:os.Started)(H:Type)(enc:TypeId×Value→H)(F:Stop.Interp):
 ReturnsInHanded {} Tryd.checked os 17 .any ((OpenSpec.ofChange Rows.convoyBestSpec).preRow enc Tryd.prog Tryd.f17 Rows.convoyBestRow.domain false Rows.convoyBestRow.laid) (((OpenSpec.ofChange Rows.convoyBestSpec).at F).post enc Tryd.prog Tryd.f17 false true false false):=by
 obtain⟨places,hx⟩:=reads os enc
 refine returnsInHanded_of_row (C:=Tryd.checked) (s:=OpenSpec.ofChange Rows.convoyBestSpec) own started (by kernel_rfl) Tryd.func17
  (witness_row_at (enc:=enc) (C:=Tryd.checked) false (tu os) #[.slice none 0 0] rfl (by kernel_rfl) (by kernel_rfl) (by kernel_rfl)
    (OpenSpec.preRow_of_cond 8 hx (by kernel_rfl) (fun k hk=>by cases hk) (by kernel_rfl) (HO os))) ?_
 intro W base args ds gs before hval hW _ _ _ hL _ _
 exact Jp H enc W base args ds gs before hval hW hL
theorem said:Rows.ConvoyBestSaid:=
 OpenClaim.holds_of_cond 17 Tryd.f17 rfl rfl rfl rfl rfl rfl rfl ⟨rfl,rfl,rfl,rfl,rfl⟩ rfl rfl rfl rfl rfl (by kernel_rfl) Tryd.func17 (by kernel_rfl)
  (of_decide_eq_true (by kernel_rfl)) (by unfold Func.isWrapper;first|(rw[if_pos (by decide+kernel)];kernel_rfl)|(rw[if_neg (by decide+kernel)];exact⟨rfl,rfl⟩))
  (fun os started H enc _ F=>by rw[OpenClaim.pre_eq_preRow];exact lifted os started H enc F)
theorem plain(f:FuncId)(fn:Func)(hf:Tryd.pinned.checked.prog.funcNamed "sastrugi/sastrugilaw04.ConvoyBest" =some f)(hfn:Tryd.pinned.checked.prog.funcs[f]? =some fn):
 false=Tryd.pinned.checked.prog.looks []∧∀(j:Nat) t,fn.params[j]? =some t→Tryd.pinned.checked.prog.wantsStandIn t=false:=by
 obtain rfl:f=17:=Option.some.inj ((show Tryd.prog.funcNamed "sastrugi/sastrugilaw04.ConvoyBest" =some 17 by kernel_rfl).symm.trans hf)|>.symm
 obtain rfl:fn=Tryd.f17:=(Option.some.inj (Tryd.func17.symm.trans hfn)).symm
 refine⟨by kernel_rfl,fun j t ht=> ?_⟩
 rw[Tryd.params17]at ht
 have ht' :t=31:=by simpa using Array.mem_of_getElem? ht
 subst ht'
 ·exact(show Tryd.prog.wantsStandIn 31=false by kernel_rfl)
theorem card:Rows.ConvoyBestCardSaid:=
 Claim7.holds_tied_plain_at .later [] _ _ _ _ said (fun _ h=>by cases h) (by kernel_rfl) (fun _ h=>by cases h) convoyBest_row_tie rfl ⟨rfl,rfl⟩ (by kernel_rfl) rfl plain (by kernel_rfl)
end Go.Proofs.YtafnhieaeejlcaaDoor.convoyBest
