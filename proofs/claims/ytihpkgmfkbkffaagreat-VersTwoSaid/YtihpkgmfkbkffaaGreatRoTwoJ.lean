/- VersTwo: the given statement, from its walk. -/
import Derived.Test.YtihpkgmfkbkffaaGreatRows
import Derived.WalkKit
import Derived.ProofKit
import Derived.OpenShut
import Derived.Test.YtihpkgmfkbkffaaGreatWG
import Derived.Test.YtihpkgmfkbkffaaGreatWJ
namespace Go.Proofs.YtihpkgmfkbkffaaGreat.versTwo
open Go.ChangeShapes Go.WideShapes Go.ChangeAt Go.RowKit
set_option linter.unusedVariables false

set_option maxRecDepth 100000 in
theorem contract (H : Type) (enc : TypeId × Value → H) (W : World) (base : Nat) (args : Array Value) (ds gs : List (DataW H)) (before : List MemPlace)
    (hval0 : ∀ (j : Nat) t v, Tryz.f9.params[j]? = some t → args[j]? = some v → Value.okWide Tryz.prog W .any base t v)
    (hW : DataW.Whole enc Tryz.prog Tryz.f9.params.toList Rows.versTwoSpec.vars false W args.toList ds gs before)
    (hsz : (DataW.weightsEach Tryz.prog (Tryz.f9.params.toList ++ Rows.versTwoSpec.plain.varTypes Tryz.prog) (ds ++ gs)).all (· ≤ reachBytes) = true) :
    Calls Tryz.prog 9 args W fun e W' => ∃ v, e = .returned v ∧ Rows.versTwoSpec.post enc Tryz.prog Tryz.f9 false true false false W args v W' := by
  have hval : ∀ (j : Nat) t v, Tryz.f9.params[j]? = some t → args[j]? = some v → Value.okWide Tryz.prog W .any base t v := hval0
  have hW' := hW
  obtain ⟨p, q, hA0, hV, rfl, hfz, hnd⟩ := hW
  have hA : DataW.TrodAll enc Tryz.prog W 0 (fun _ => true) true Tryz.f9.params.toList args.toList ds p := hA0
  rw [Tryz.params9] at hA hval
  have hAA := hA
  obtain ⟨v0, vs0, d0, ds0, p0, q0, hargs, rfl, rfl, h0, r0⟩ := trodAll_cons hA
  obtain ⟨v1, vs1, d1, ds1, p1, q1, rfl, rfl, rfl, h1, r1⟩ := trodAll_cons r0
  obtain ⟨v2, vs2, d2, ds2, p2, q2, rfl, rfl, rfl, h2, r2⟩ := trodAll_cons r1
  obtain ⟨v3, vs3, d3, ds3, p3, q3, rfl, rfl, rfl, h3, r3⟩ := trodAll_cons r2
  obtain ⟨v4, vs4, d4, ds4, p4, q4, rfl, rfl, rfl, h4, r4⟩ := trodAll_cons r3
  obtain ⟨rfl, rfl, rfl⟩ := trodAll_nil r4
  obtain rfl : args = #[v0, v1, v2, v3, v4] := by cases args; simp_all
  obtain ⟨rfl, rfl⟩ := trodVars_none hV
  have hM : maxLen ≤ 9223372036854775807 := by decide
  obtain ⟨ys0, hy0, hyl0, hq0⟩ := Go.Sx.open_row (e := Go.Sx.encI) (sz := 1) Tryz.underlying22 (by kernel_rfl) (Go.Sx.reads_i64 Tryz.underlying3) (hval 0 22 v0 rfl rfl) h0 (fun _ => .inl rfl)
  obtain ⟨ys1, hy1, hyl1, hq1⟩ := Go.Sx.open_row (e := Go.Sx.encI) (sz := 1) Tryz.underlying22 (by kernel_rfl) (Go.Sx.reads_i64 Tryz.underlying3) (hval 1 22 v1 rfl rfl) h1 (fun _ => .inl rfl)
  obtain ⟨x2, rfl, _, _⟩ := open_bool Tryz.underlying4 (hval 2 4 v2 rfl rfl) h2
  obtain ⟨x3, rfl, _, _⟩ := open_bool Tryz.underlying4 (hval 3 4 v3 rfl rfl) h3
  obtain ⟨x4, rfl, _, _⟩ := open_bool Tryz.underlying4 (hval 4 4 v4 rfl rfl) h4
  have hz0 := Ro.trod_small hsz (j := 0) rfl rfl Tryz.underlying22 (of_decide_eq_true (by kernel_rfl)) h0 hy0
  have hz1 := Ro.trod_small hsz (j := 1) rfl rfl Tryz.underlying22 (of_decide_eq_true (by kernel_rfl)) h1 hy1
  refine (Go.Sx.calls_of (P := Tryz.prog) (f := 9) (w := W) (@Sx.law_VersTwo (Go.Sx.outer W) v0 v1 ys0 ys1 x2 x3 x4 [Go.Sx.all W] hy0 hy1 (by omega) (by omega))).mono fun e W' ⟨he, hO⟩ => ?_
  subst he
  refine ⟨_, rfl, Go.Sx.post_of_old (pv := []) hW' (fun _ _ _ => (trodAll_cons_mk (shut_bool Tryz.underlying4 _) trodAll_mk0)) (fun sp hsp => ?_) (fun _ _ => rfl) rfl hO (ok_one (by kernel_rfl) rfl (okWide_bool_mk Tryz.underlying4 _))⟩
  refine Go.Sx.trodAll_old Ro.laid hO ?_ hAA (fun x hx => hsp x (List.mem_append_left _ hx)) (fun x hx => hW'.lt x (List.mem_append_left _ hx))
  intro t ht
  have ht : t ∈ [22, 22, 4, 4, 4] := ht
  simp only [List.mem_cons, List.not_mem_nil, or_false] at ht
  rcases ht with rfl | rfl | rfl | rfl | rfl
  all_goals exact ⟨by kernel_rfl, of_decide_eq_true (by kernel_rfl)⟩

set_option maxRecDepth 100000 in
theorem lifted (os : Os) (started : os.Started) (H : Type) (enc : TypeId × Value → H) :
    ReturnsInHanded {} Tryz.checked os 9 .any (Rows.versTwoSpec.pre6 enc Tryz.prog Tryz.f9 Rows.versTwoRow.domain false) (Rows.versTwoSpec.post enc Tryz.prog Tryz.f9 false true false false) := by
  refine returnsInHanded_of_change_sized (C := Tryz.checked) Ro.own started (by kernel_rfl) Tryz.func9
    (ChangeSpec.witness6 (enc := enc) (C := Tryz.checked) false ⟨#[], #[.slice none 0 0, .slice none 0 0, .bool false, .bool false, .bool false], []⟩ 8 (by kernel_rfl) (by kernel_rfl) (by kernel_rfl) (by kernel_rfl)) ?_
  intro W base args ds gs before hval0 hW hcnd hsz _
  exact contract H enc W base args ds gs before hval0 hW hsz

theorem over : Rows.versTwoRow.holds Tryz.pinned (OpenSpec.ofChange Rows.versTwoSpec) :=
  OpenClaim.holds_of_wide 9 Tryz.f9 rfl rfl rfl rfl rfl rfl rfl ⟨rfl, rfl, rfl, rfl, rfl⟩ rfl rfl rfl rfl rfl (by kernel_rfl) Tryz.func9 (by kernel_rfl)
    (of_decide_eq_true (by kernel_rfl)) (by unfold Func.isWrapper; first | (rw [if_pos (by decide +kernel)]; kernel_rfl) | (rw [if_neg (by decide +kernel)]; exact ⟨rfl, rfl⟩))
    (fun os started H enc _ => lifted os started H enc)

/-- the statement -/
theorem proved : Rows.VersTwoSaid :=
  over
#print axioms proved
end Go.Proofs.YtihpkgmfkbkffaaGreat.versTwo
