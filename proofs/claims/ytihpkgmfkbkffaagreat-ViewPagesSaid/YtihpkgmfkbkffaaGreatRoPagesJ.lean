/- ViewPages: the given statement, from its walk. -/
import Derived.Test.YtihpkgmfkbkffaaGreatRows
import Derived.WalkKit
import Derived.ProofKit
import Derived.OpenShut
import Derived.Test.YtihpkgmfkbkffaaGreatZF
import Derived.Test.YtihpkgmfkbkffaaGreatZJ
namespace Go.Proofs.YtihpkgmfkbkffaaGreat.viewPages
open Go.ChangeShapes Go.WideShapes Go.ChangeAt Go.RowKit
set_option linter.unusedVariables false
set_option maxRecDepth 100000 in
theorem contract(H:Type)(enc:TypeId×Value->H)(W:World)(base:Nat)(args:Array Value)(ds gs:List (DataW H))(before:List MemPlace)
 (lg:∀(j:Nat) t v,Tryz.f10.params[j]? =some t->args[j]? =some v->Value.okWide Tryz.prog W .any base t v)
 (hW:DataW.Whole enc Tryz.prog Tryz.f10.params.toList Rows.viewPagesSpec.vars false W args.toList ds gs before):
 Calls Tryz.prog 10 args W fun e W'=>∃v,e= .returned v/\Rows.viewPagesSpec.post enc Tryz.prog Tryz.f10 false true false false W args v W':=by
 have hval:∀(j:Nat) t v,Tryz.f10.params[j]? =some t->args[j]? =some v->Value.okWide Tryz.prog W .any base t v:=lg
 have Jo:=hW
 obtain⟨p,q,Nj,hV,rfl,hfz,hnd⟩:=hW
 have hA:DataW.TrodAll enc Tryz.prog W 0 (fun _=>true) true Tryz.f10.params.toList args.toList ds p:=Nj
 rw[Tryz.params10]at hA hval
 have Nk:=hA
 obtain⟨v0,Wk,d0,Wl,p0,q0,hargs,rfl,rfl,h0,r0⟩:=trodAll_cons hA
 obtain⟨v1,Wm,d1,Wn,p1,q1,rfl,rfl,rfl,h1,r1⟩:=trodAll_cons r0
 obtain⟨rfl,rfl,rfl⟩:=trodAll_nil r1
 obtain rfl:args= #[v0,v1]:=by cases args;simp_all
 obtain⟨rfl,rfl⟩:=trodVars_none hV
 have hM:maxLen<=9223372036854775807:=by decide
 obtain⟨Rs,hy0,SN,GD⟩:=Go.Sx.r7 (e:=Go.Sx.cM) (sz:=1) Tryz.underlying22 (by kernel_rfl) (Go.Sx.C3 Tryz.underlying3) (hval 0 22 v0 rfl rfl) h0 (fun _=> .inl rfl)
 obtain⟨Wo,hy1,Xf,nh⟩:=Go.Sx.r7 (e:=Go.Sx.aB) (sz:=1) Tryz.underlying27 (by kernel_rfl) (Go.Sx.FA Tryz.underlying5) (hval 1 27 v1 rfl rfl) h1 (fun _=> .inl rfl)
 refine(Go.Sx.r6 (P:=Tryz.prog) (f:=10) (w:=W) (@Sx.tZ (Go.Sx.outer W) v0 v1 Rs Wo [Go.Sx.all W] hy0 hy1 (by omega) (by omega))).mono fun e W' ⟨he,hO⟩=> ?_
 subst he
 refine⟨_,rfl,Go.Sx.lJ (pv:=[]) Jo (fun _ _ _=>(trodAll_cons_mk (shut_bool Tryz.underlying4 _) trodAll_mk0)) (fun sp hsp=> ?_) (fun _ _=>rfl) rfl hO (ok_one (by kernel_rfl) rfl (okWide_bool_mk Tryz.underlying4 _))⟩
 refine Go.Sx.jd Ro.laid hO ?_ Nk (fun x hx=>hsp x (List.mem_append_left _ hx)) (fun x hx=>Jo.lt x (List.mem_append_left _ hx))
 intro t ht
 have ht:t∈[22,27]:=ht
 simp only[List.mem_cons,List.not_mem_nil,or_false]at ht
 rcases ht with rfl|rfl
 all_goals exact⟨by kernel_rfl,of_decide_eq_true (by kernel_rfl)⟩
set_option maxRecDepth 100000 in
theorem lifted(os:Os)(started:os.Started)(H:Type)(enc:TypeId×Value->H):
 ReturnsInHanded {} Tryz.checked os 10 .any (Rows.viewPagesSpec.pre6 enc Tryz.prog Tryz.f10 Rows.viewPagesRow.domain false) (Rows.viewPagesSpec.post enc Tryz.prog Tryz.f10 false true false false):=by
 refine returnsInHanded_of_change (C:=Tryz.checked) Ro.own started (by kernel_rfl) Tryz.func10
  (ChangeSpec.witness6 (enc:=enc) (C:=Tryz.checked) false ⟨#[],#[.slice none 0 0,.slice none 0 0],[]⟩ 8 (by kernel_rfl) (by kernel_rfl) (by kernel_rfl) (by kernel_rfl)) ?_
 intro W base args ds gs before lg hW N7 _
 exact contract H enc W base args ds gs before lg hW
theorem over:Rows.viewPagesRow.holds Tryz.pinned (OpenSpec.ofChange Rows.viewPagesSpec):=
 OpenClaim.holds_of_wide 10 Tryz.f10 rfl rfl rfl rfl rfl rfl rfl ⟨rfl,rfl,rfl,rfl,rfl⟩ rfl rfl rfl rfl rfl (by kernel_rfl) Tryz.func10 (by kernel_rfl)
  (of_decide_eq_true (by kernel_rfl)) (by unfold Func.isWrapper;first|(rw[if_pos (by decide+kernel)];kernel_rfl)|(rw[if_neg (by decide+kernel)];exact⟨rfl,rfl⟩))
  (fun os started H enc _=>lifted os started H enc)
theorem proved:Rows.ViewPagesSaid:=
 over
#print axioms proved
end Go.Proofs.YtihpkgmfkbkffaaGreat.viewPages
