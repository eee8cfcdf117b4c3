/- VersAgree: the given statement, from its walk. -/
import Derived.Test.YtihpkgmfkbkffaaGreatRows
import Derived.WalkKit
import Derived.ProofKit
import Derived.OpenShut
import Derived.Test.YtihpkgmfkbkffaaGreatVF
import Derived.Test.YtihpkgmfkbkffaaGreatVJ
namespace Go.Proofs.YtihpkgmfkbkffaaGreat.versAgree
open Go.ChangeShapes Go.WideShapes Go.ChangeAt Go.RowKit
set_option linter.unusedVariables false

set_option maxRecDepth 100000 in
theorem contract (H : Type) (enc : TypeId × Value → H) (W : World) (base : Nat) (args : Array Value) (ds gs : List (DataW H)) (before : List MemPlace)
    (hval0 : ∀ (j : Nat) t v, Tryz.f3.params[j]? = some t → args[j]? = some v → Value.okWide Tryz.prog W .any base t v)
    (hW : DataW.Whole enc Tryz.prog Tryz.f3.params.toList Rows.versAgreeSpec.vars false W args.toList ds gs before) :
    Calls Tryz.prog 3 args W fun e W' => ∃ v, e = .returned v ∧ Rows.versAgreeSpec.post enc Tryz.prog Tryz.f3 false true false false W args v W' := by
  have hval : ∀ (j : Nat) t v, Tryz.f3.params[j]? = some t → args[j]? = some v → Value.okWide Tryz.prog W .any base t v := hval0
  have hW' := hW
  obtain ⟨p, q, hA0, hV, rfl, hfz, hnd⟩ := hW
  have hA : DataW.TrodAll enc Tryz.prog W 0 (fun _ => true) true Tryz.f3.params.toList args.toList ds p := hA0
  rw [Tryz.params3] at hA hval
  have hAA := hA
  obtain ⟨v0, vs0, d0, ds0, p0, q0, hargs, rfl, rfl, h0, r0⟩ := trodAll_cons hA
  obtain ⟨v1, vs1, d1, ds1, p1, q1, rfl, rfl, rfl, h1, r1⟩ := trodAll_cons r0
  obtain ⟨v2, vs2, d2, ds2, p2, q2, rfl, rfl, rfl, h2, r2⟩ := trodAll_cons r1
  obtain ⟨rfl, rfl, rfl⟩ := trodAll_nil r2
  obtain rfl : args = #[v0, v1, v2] := by cases args; simp_all
  obtain ⟨rfl, rfl⟩ := trodVars_none hV
  have hM : maxLen ≤ 9223372036854775807 := by decide
  obtain ⟨ys0, hy0, hyl0, hq0⟩ := Go.Sx.open_row (e := Go.Sx.encI) (sz := 1) Tryz.underlying22 (by kernel_rfl) (Go.Sx.reads_i64 Tryz.underlying3) (hval 0 22 v0 rfl rfl) h0 (fun _ => .inl rfl)
  obtain ⟨ys1, hy1, hyl1, hq1⟩ := Go.Sx.open_row (e := Go.Sx.encI) (sz := 1) Tryz.underlying22 (by kernel_rfl) (Go.Sx.reads_i64 Tryz.underlying3) (hval 1 22 v1 rfl rfl) h1 (fun _ => .inl rfl)
  obtain ⟨a2, rfl, _, _, w2⟩ := open_int Tryz.underlying3 (hval 2 3 v2 rfl rfl) h2
  simp only [Lit.wf, Bool.and_eq_true, decide_eq_true_eq] at w2
  have ha2 : -9223372036854775808 ≤ a2 := w2.1
  have hb2 : a2 ≤ 9223372036854775807 := w2.2
  refine (Go.Sx.calls_of (P := Tryz.prog) (f := 3) (w := W) (@Sx.law_VersAgree (Go.Sx.outer W) v0 v1 ys0 ys1 a2 [Go.Sx.all W] hy0 hy1 (by omega) (by omega))).mono fun e W' ⟨he, hO⟩ => ?_
  subst he
  refine ⟨_, rfl, Go.Sx.post_of_old (pv := []) hW' (fun _ _ _ => (trodAll_cons_mk (shut_bool Tryz.underlying4 _) trodAll_mk0)) (fun sp hsp => ?_) (fun _ _ => rfl) rfl hO (ok_one (by kernel_rfl) rfl (okWide_bool_mk Tryz.underlying4 _))⟩
  refine Go.Sx.trodAll_old Ro.laid hO ?_ hAA (fun x hx => hsp x (List.mem_append_left _ hx)) (fun x hx => hW'.lt x (List.mem_append_left _ hx))
  intro t ht
  have ht : t ∈ [22, 22, 3] := ht
  simp only [List.mem_cons, List.not_mem_nil, or_false] at ht
  rcases ht with rfl | rfl | rfl
  all_goals exact ⟨by kernel_rfl, of_decide_eq_true (by kernel_rfl)⟩

set_option maxRecDepth 100000 in
theorem lifted (os : Os) (started : os.Started) (H : Type) (enc : TypeId × Value → H) :
    ReturnsInHanded {} Tryz.checked os 3 .any (Rows.versAgreeSpec.pre6 enc Tryz.prog Tryz.f3 Rows.versAgreeRow.domain false) (Rows.versAgreeSpec.post enc Tryz.prog Tryz.f3 false true false false) := by
  refine returnsInHanded_of_change (C := Tryz.checked) Ro.own started (by kernel_rfl) Tryz.func3
    (ChangeSpec.witness6 (enc := enc) (C := Tryz.checked) false ⟨#[], #[.slice none 0 0, .slice none 0 0, .int .i64 0], []⟩ 8 (by kernel_rfl) (by kernel_rfl) (by kernel_rfl) (by kernel_rfl)) ?_
  intro W base args ds gs before hval0 hW hcnd _
  exact contract H enc W base args ds gs before hval0 hW

theorem over : Rows.versAgreeRow.holds Tryz.pinned (OpenSpec.ofChange Rows.versAgreeSpec) :=
  OpenClaim.holds_of_wide 3 Tryz.f3 rfl rfl rfl rfl rfl rfl rfl ⟨rfl, rfl, rfl, rfl, rfl⟩ rfl rfl rfl rfl rfl (by kernel_rfl) Tryz.func3 (by kernel_rfl)
    (of_decide_eq_true (by kernel_rfl)) (by unfold Func.isWrapper; first | (rw [if_pos (by decide +kernel)]; kernel_rfl) | (rw [if_neg (by decide +kernel)]; exact ⟨rfl, rfl⟩))
    (fun os started H enc _ => lifted os started H enc)

/-- the statement -/
theorem proved : Rows.VersAgreeSaid :=
  over
#print axioms proved
end Go.Proofs.YtihpkgmfkbkffaaGreat.versAgree
