/- VersAll: the given statement, from its walk. -/
import Derived.Test.YtihpkgmfkbkffaaGreatRows
import Derived.WalkKit
import Derived.ProofKit
import Derived.OpenShut
import Derived.Test.YtihpkgmfkbkffaaGreatYF
import Derived.Test.YtihpkgmfkbkffaaGreatYJ
namespace Go.Proofs.YtihpkgmfkbkffaaGreat.versAll
open Go.ChangeShapes Go.WideShapes Go.ChangeAt Go.RowKit
set_option linter.unusedVariables false
set_option maxRecDepth 100000 in
theorem contract(H:Type)(enc:TypeId×Value->H)(W:World)(base:Nat)(args:Array Value)(ds gs:List (DataW H))(before:List MemPlace)
 (D6:∀(j:Nat) t v,Tryz.f8.params[j]? =some t->args[j]? =some v->Value.okWide Tryz.prog W .any base t v)
 (hW:DataW.Whole enc Tryz.prog Tryz.f8.params.toList Rows.versAllSpec.vars false W args.toList ds gs before):
 Calls Tryz.prog 8 args W fun e W'=>∃v,e= .returned v/\Rows.versAllSpec.post enc Tryz.prog Tryz.f8 false true false false W args v W':=by
 have hval:∀(j:Nat) t v,Tryz.f8.params[j]? =some t->args[j]? =some v->Value.okWide Tryz.prog W .any base t v:=D6
 have Sp:=hW
 obtain⟨p,q,VA,hV,rfl,hfz,hnd⟩:=hW
 have hA:DataW.TrodAll enc Tryz.prog W 0 (fun _=>true) true Tryz.f8.params.toList args.toList ds p:=VA
 rw[Tryz.params8]at hA hval
 have VB:=hA
 obtain⟨v0,Xp,d0,Xq,p0,q0,hargs,rfl,rfl,h0,r0⟩:=trodAll_cons hA
 obtain⟨rfl,rfl,rfl⟩:=trodAll_nil r0
 obtain rfl:args= #[v0]:=by cases args;simp_all
 obtain⟨rfl,rfl⟩:=trodVars_none hV
 have hM:maxLen<=9223372036854775807:=by decide
 obtain⟨VC,hy0,Wn,FV⟩:=Ro.CC (hval 0 53 v0 rfl rfl) h0
 refine(Go.Sx.ED (P:=Tryz.prog) (f:=8) (w:=W) (@Sx.ye (Go.Sx.outer W) v0 VC [Go.Sx.all W] hy0 (by omega) FV)).mono fun e W' ⟨he,hO⟩=> ?_
 subst he
 refine⟨_,rfl,Go.Sx.xB (pv:=[]) Sp (fun _ _ _=>(trodAll_cons_mk (shut_bool Tryz.underlying4 _) trodAll_mk0)) (fun sp hsp=> ?_) (fun _ _=>rfl) rfl hO (ok_one (by kernel_rfl) rfl (okWide_bool_mk Tryz.underlying4 _))⟩
 refine Go.Sx.pZ Ro.laid hO ?_ VB (fun x hx=>hsp x (List.mem_append_left _ hx)) (fun x hx=>Sp.lt x (List.mem_append_left _ hx))
 intro t ht
 have ht:t∈[53]:=ht
 simp only[List.mem_cons,List.not_mem_nil,or_false]at ht
 subst ht
 exact⟨by kernel_rfl,of_decide_eq_true (by kernel_rfl)⟩
set_option maxRecDepth 100000 in
theorem lifted(os:Os)(started:os.Started)(H:Type)(enc:TypeId×Value->H):
 ReturnsInHanded {} Tryz.checked os 8 .any (Rows.versAllSpec.pre6 enc Tryz.prog Tryz.f8 Rows.versAllRow.domain false) (Rows.versAllSpec.post enc Tryz.prog Tryz.f8 false true false false):=by
 refine returnsInHanded_of_change (C:=Tryz.checked) Ro.own started (by kernel_rfl) Tryz.func8
  (ChangeSpec.witness6 (enc:=enc) (C:=Tryz.checked) false ⟨#[],#[.slice none 0 0],[]⟩ 8 (by kernel_rfl) (by kernel_rfl) (by kernel_rfl) (by kernel_rfl)) ?_
 intro W base args ds gs before D6 hW Wo _
 exact contract H enc W base args ds gs before D6 hW
theorem over:Rows.versAllRow.holds Tryz.pinned (OpenSpec.ofChange Rows.versAllSpec):=
 OpenClaim.holds_of_wide 8 Tryz.f8 rfl rfl rfl rfl rfl rfl rfl ⟨rfl,rfl,rfl,rfl,rfl⟩ rfl rfl rfl rfl rfl (by kernel_rfl) Tryz.func8 (by kernel_rfl)
  (of_decide_eq_true (by kernel_rfl)) (by unfold Func.isWrapper;first|(rw[if_pos (by decide+kernel)];kernel_rfl)|(rw[if_neg (by decide+kernel)];exact⟨rfl,rfl⟩))
  (fun os started H enc _=>lifted os started H enc)
theorem proved:Rows.VersAllSaid:=
 over
#print axioms proved
end Go.Proofs.YtihpkgmfkbkffaaGreat.versAll
