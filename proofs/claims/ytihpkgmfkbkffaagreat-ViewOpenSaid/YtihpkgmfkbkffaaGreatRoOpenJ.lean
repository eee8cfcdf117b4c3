/- ViewOpen: the given statement, from its walk. -/
import Derived.Test.YtihpkgmfkbkffaaGreatRows
import Derived.WalkKit
import Derived.ProofKit
import Derived.OpenShut
import Derived.Test.YtihpkgmfkbkffaaGreatZF
import Derived.Test.YtihpkgmfkbkffaaGreatZJ
namespace Go.Proofs.YtihpkgmfkbkffaaGreat.viewOpen
open Go.ChangeShapes Go.WideShapes Go.ChangeAt Go.RowKit
set_option linter.unusedVariables false
set_option maxRecDepth 100000 in
theorem contract(H:Type)(enc:TypeId×Value->H)(W:World)(base:Nat)(args:Array Value)(ds gs:List (DataW H))(before:List MemPlace)
 (lg:∀(j:Nat) t v,Tryz.f12.params[j]? =some t->args[j]? =some v->Value.okWide Tryz.prog W .any base t v)
 (hW:DataW.Whole enc Tryz.prog Tryz.f12.params.toList Rows.viewOpenSpec.vars false W args.toList ds gs before):
 Calls Tryz.prog 12 args W fun e W'=>∃v,e= .returned v/\Rows.viewOpenSpec.post enc Tryz.prog Tryz.f12 false true false false W args v W':=by
 have hval:∀(j:Nat) t v,Tryz.f12.params[j]? =some t->args[j]? =some v->Value.okWide Tryz.prog W .any base t v:=lg
 have Jo:=hW
 obtain⟨p,q,Nj,hV,rfl,hfz,hnd⟩:=hW
 have hA:DataW.TrodAll enc Tryz.prog W 0 (fun _=>true) true Tryz.f12.params.toList args.toList ds p:=Nj
 rw[Tryz.params12]at hA hval
 have Nk:=hA
 obtain⟨v0,Wk,d0,Wl,p0,q0,hargs,rfl,rfl,h0,r0⟩:=trodAll_cons hA
 obtain⟨v1,Wm,d1,Wn,p1,q1,rfl,rfl,rfl,h1,r1⟩:=trodAll_cons r0
 obtain⟨v2,Ya,d2,Yb,p2,q2,rfl,rfl,rfl,h2,r2⟩:=trodAll_cons r1
 obtain⟨rfl,rfl,rfl⟩:=trodAll_nil r2
 obtain rfl:args= #[v0,v1,v2]:=by cases args;simp_all
 obtain⟨rfl,rfl⟩:=trodVars_none hV
 have hM:maxLen<=9223372036854775807:=by decide
 obtain⟨Rs,hy0,SN,GD⟩:=Go.Sx.r7 (e:=Go.Sx.ij) (sz:=1) Tryz.underlying91 (by kernel_rfl) (Go.Sx.wC Tryz.underlying9) (hval 0 91 v0 rfl rfl) h0 (fun _=> .inl rfl)
 obtain⟨a1,rfl,_,_,w1⟩:=open_int Tryz.underlying3 (hval 1 3 v1 rfl rfl) h1
 simp only[Lit.wf,Bool.and_eq_true,decide_eq_true_eq]at w1
 have Qe: -9223372036854775808<=a1:=w1.1
 have tj:a1<=9223372036854775807:=w1.2
 obtain⟨s2,rfl,_,_,kX⟩:=Go.ChangeMaps.open_string Tryz.underlying9 (hval 2 9 v2 rfl rfl) h2
 refine(Go.Sx.r6 (P:=Tryz.prog) (f:=12) (w:=W) (@Sx.wP (Go.Sx.outer W) v0 Rs a1 ⟨Qe,tj⟩ s2 (by have:s2.size<=maxLen:=kX;omega) [Go.Sx.all W] hy0 (by omega) (fun x hx=>by have:=GD x hx;omega))).mono fun e W' ⟨he,hO⟩=> ?_
 subst he
 refine⟨_,rfl,Go.Sx.lJ (pv:=[]) Jo (fun _ _ _=>(trodAll_cons_mk (shut_bool Tryz.underlying4 _) trodAll_mk0)) (fun sp hsp=> ?_) (fun _ _=>rfl) rfl hO (ok_one (by kernel_rfl) rfl (okWide_bool_mk Tryz.underlying4 _))⟩
 refine Go.Sx.jd Ro.laid hO ?_ Nk (fun x hx=>hsp x (List.mem_append_left _ hx)) (fun x hx=>Jo.lt x (List.mem_append_left _ hx))
 intro t ht
 have ht:t∈[91,3,9]:=ht
 simp only[List.mem_cons,List.not_mem_nil,or_false]at ht
 rcases ht with rfl|rfl|rfl
 all_goals exact⟨by kernel_rfl,of_decide_eq_true (by kernel_rfl)⟩
set_option maxRecDepth 100000 in
theorem lifted(os:Os)(started:os.Started)(H:Type)(enc:TypeId×Value->H):
 ReturnsInHanded {} Tryz.checked os 12 .any (Rows.viewOpenSpec.pre6 enc Tryz.prog Tryz.f12 Rows.viewOpenRow.domain false) (Rows.viewOpenSpec.post enc Tryz.prog Tryz.f12 false true false false):=by
 refine returnsInHanded_of_change (C:=Tryz.checked) Ro.own started (by kernel_rfl) Tryz.func12
  (ChangeSpec.witness6 (enc:=enc) (C:=Tryz.checked) false ⟨#[],#[.slice none 0 0,.int .i64 0,.string ⟨#[]⟩],[]⟩ 8 (by kernel_rfl) (by kernel_rfl) (by kernel_rfl) (by kernel_rfl)) ?_
 intro W base args ds gs before lg hW N7 _
 exact contract H enc W base args ds gs before lg hW
theorem over:Rows.viewOpenRow.holds Tryz.pinned (OpenSpec.ofChange Rows.viewOpenSpec):=
 OpenClaim.holds_of_wide 12 Tryz.f12 rfl rfl rfl rfl rfl rfl rfl ⟨rfl,rfl,rfl,rfl,rfl⟩ rfl rfl rfl rfl rfl (by kernel_rfl) Tryz.func12 (by kernel_rfl)
  (of_decide_eq_true (by kernel_rfl)) (by unfold Func.isWrapper;first|(rw[if_pos (by decide+kernel)];kernel_rfl)|(rw[if_neg (by decide+kernel)];exact⟨rfl,rfl⟩))
  (fun os started H enc _=>lifted os started H enc)
theorem proved:Rows.ViewOpenSaid:=
 over
#print axioms proved
end Go.Proofs.YtihpkgmfkbkffaaGreat.viewOpen
