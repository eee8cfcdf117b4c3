/- ViewNone: the given statement, from its walk. -/
import Derived.Test.YtihpkgmfkbkffaaGreatRows
import Derived.WalkKit
import Derived.ProofKit
import Derived.OpenShut
import Derived.Test.YtihpkgmfkbkffaaGreatZF
import Derived.Test.YtihpkgmfkbkffaaGreatZJ
namespace Go.Proofs.YtihpkgmfkbkffaaGreat.viewNone
open Go.ChangeShapes Go.WideShapes Go.ChangeAt Go.RowKit
set_option linter.unusedVariables false
set_option maxRecDepth 100000 in
theorem contract(H:Type)(enc:TypeId×Value->H)(W:World)(base:Nat)(args:Array Value)(ds gs:List (DataW H))(before:List MemPlace)
 (lg:∀(j:Nat) t v,Tryz.f11.params[j]? =some t->args[j]? =some v->Value.okWide Tryz.prog W .any base t v)
 (hW:DataW.Whole enc Tryz.prog Tryz.f11.params.toList Rows.viewNoneSpec.vars false W args.toList ds gs before):
 Calls Tryz.prog 11 args W fun e W'=>∃v,e= .returned v/\Rows.viewNoneSpec.post enc Tryz.prog Tryz.f11 false true false false W args v W':=by
 have hval:∀(j:Nat) t v,Tryz.f11.params[j]? =some t->args[j]? =some v->Value.okWide Tryz.prog W .any base t v:=lg
 have Jo:=hW
 obtain⟨p,q,Nj,hV,rfl,hfz,hnd⟩:=hW
 have hA:DataW.TrodAll enc Tryz.prog W 0 (fun _=>true) true Tryz.f11.params.toList args.toList ds p:=Nj
 rw[Tryz.params11]at hA hval
 have Nk:=hA
 obtain⟨hargs,rfl,rfl⟩:=trodAll_nil hA
 obtain rfl:args= #[]:=by cases args;simp_all
 obtain⟨rfl,rfl⟩:=trodVars_none hV
 have hM:maxLen<=9223372036854775807:=by decide
 refine(Go.Sx.r6 (P:=Tryz.prog) (f:=11) (w:=W) (@Sx.wO (Go.Sx.outer W) [Go.Sx.all W])).mono fun e W' ⟨he,hO⟩=> ?_
 subst he
 refine⟨_,rfl,Go.Sx.lJ (pv:=[]) Jo (fun _ _ _=>(trodAll_cons_mk (shut_bool Tryz.underlying4 _) trodAll_mk0)) (fun sp hsp=> ?_) (fun _ _=>rfl) rfl hO (ok_one (by kernel_rfl) rfl (okWide_bool_mk Tryz.underlying4 _))⟩
 refine Go.Sx.jd Ro.laid hO ?_ Nk (fun x hx=>hsp x (List.mem_append_left _ hx)) (fun x hx=>Jo.lt x (List.mem_append_left _ hx))
 intro t ht
 cases ht
set_option maxRecDepth 100000 in
theorem lifted(os:Os)(started:os.Started)(H:Type)(enc:TypeId×Value->H):
 ReturnsInHanded {} Tryz.checked os 11 .any (Rows.viewNoneSpec.pre6 enc Tryz.prog Tryz.f11 Rows.viewNoneRow.domain false) (Rows.viewNoneSpec.post enc Tryz.prog Tryz.f11 false true false false):=by
 refine returnsInHanded_of_change (C:=Tryz.checked) Ro.own started (by kernel_rfl) Tryz.func11
  (ChangeSpec.witness6 (enc:=enc) (C:=Tryz.checked) false ⟨#[],#[],[]⟩ 8 (by kernel_rfl) (by kernel_rfl) (by kernel_rfl) (by kernel_rfl)) ?_
 intro W base args ds gs before lg hW N7 _
 exact contract H enc W base args ds gs before lg hW
theorem over:Rows.viewNoneRow.holds Tryz.pinned (OpenSpec.ofChange Rows.viewNoneSpec):=
 OpenClaim.holds_of_wide 11 Tryz.f11 rfl rfl rfl rfl rfl rfl rfl ⟨rfl,rfl,rfl,rfl,rfl⟩ rfl rfl rfl rfl rfl (by kernel_rfl) Tryz.func11 (by kernel_rfl)
  (of_decide_eq_true (by kernel_rfl)) (by unfold Func.isWrapper;first|(rw[if_pos (by decide+kernel)];kernel_rfl)|(rw[if_neg (by decide+kernel)];exact⟨rfl,rfl⟩))
  (fun os started H enc _=>lifted os started H enc)
theorem proved:Rows.ViewNoneSaid:=
 over
#print axioms proved
end Go.Proofs.YtihpkgmfkbkffaaGreat.viewNone
