/- CoreTorn: the given statement, from its walk. -/
import Derived.Test.YtoalhcodigpgkaaDoorRows
import Derived.Test.YtoalhcodigpgkaaDoorCards
import Derived.Test.YtoalhcodigpgkaaDoorTie
import Derived.LaidMore
import Derived.Lay
import Derived.SevenTiedAt
import Derived.Stop.Joined
import Derived.WalkKit
import Derived.ProofKit
import Derived.OpenShut
import Derived.Test.YtoalhcodigpgkaaDoorME
import Derived.Test.YtoalhcodigpgkaaDoorMG
namespace Go.Proofs.YtoalhcodigpgkaaDoor.coreTorn
open Go.ChangeShapes Go.WideShapes Go.ChangeAt Go.RowKit
set_option linter.unusedVariables false

set_option maxRecDepth 100000 in
theorem contract (H : Type) (enc : TypeId × Value → H) (W : World) (base : Nat) (args : Array Value) (ds gs : List (DataW H)) (before : List MemPlace)
    (hval0 : ∀ (j : Nat) t v, Tryd.f7.params[j]? = some t → args[j]? = some v → Value.okWide Tryd.prog W .any base t v)
    (hW : DataW.Whole enc Tryd.prog Tryd.f7.params.toList Rows.coreTornSpec.vars false W args.toList ds gs before) :
    Calls Tryd.prog 7 args W fun e W' => ∃ v, e = .returned v ∧ Rows.coreTornSpec.post enc Tryd.prog Tryd.f7 false true false false W args v W' := by
  have hval : ∀ (j : Nat) t v, Tryd.f7.params[j]? = some t → args[j]? = some v → Value.okWide Tryd.prog W .any base t v := hval0
  have hW' := hW
  obtain ⟨p, q, hA0, hV, rfl, hfz, hnd⟩ := hW
  have hA : DataW.TrodAll enc Tryd.prog W 0 (fun _ => true) true Tryd.f7.params.toList args.toList ds p := hA0
  rw [Tryd.params7] at hA hval
  have hAA := hA
  obtain ⟨v0, vs0, d0, ds0, p0, q0, hargs, rfl, rfl, h0, r0⟩ := trodAll_cons hA
  obtain ⟨v1, vs1, d1, ds1, p1, q1, rfl, rfl, rfl, h1, r1⟩ := trodAll_cons r0
  obtain ⟨v2, vs2, d2, ds2, p2, q2, rfl, rfl, rfl, h2, r2⟩ := trodAll_cons r1
  obtain ⟨rfl, rfl, rfl⟩ := trodAll_nil r2
  obtain rfl : args = #[v0, v1, v2] := by cases args; simp_all
  obtain ⟨rfl, rfl⟩ := trodVars_none hV
  have hM : maxLen ≤ 9223372036854775807 := by decide
  obtain ⟨ys0, hy0, hyl0, hq0⟩ := Go.Sx.open_row (e := Go.Sx.encI) (sz := 1) Tryd.underlying44 (by kernel_rfl) (Go.Sx.reads_i64 Tryd.underlying3) (hval 0 44 v0 rfl rfl) h0 (fun _ => .inl rfl)
  obtain ⟨a1, rfl, _, _, w1⟩ := open_int Tryd.underlying3 (hval 1 3 v1 rfl rfl) h1
  simp only [Lit.wf, Bool.and_eq_true, decide_eq_true_eq] at w1
  have ha1 : -9223372036854775808 ≤ a1 := w1.1
  have hb1 : a1 ≤ 9223372036854775807 := w1.2
  obtain ⟨ys2, hy2, hyl2, hq2⟩ := Go.Sx.open_row (e := Go.Sx.encBool) (sz := 1) Tryd.underlying37 (by kernel_rfl) (Go.Sx.reads_bool Tryd.underlying4) (hval 2 37 v2 rfl rfl) h2 (fun _ => .inl rfl)
  refine (Go.Sx.calls_of (P := Tryd.prog) (f := 7) (w := W) (@Sx.law_CoreTorn (Go.Sx.outer W) v0 v2 ys0 a1 ys2 [Go.Sx.all W] hy0 (by omega) hq0 hy2)).mono fun e W' ⟨he, hO⟩ => ?_
  subst he
  refine ⟨_, rfl, Go.Sx.post_of_old (pv := []) hW' (fun _ _ _ => (trodAll_cons_mk (shut_bool Tryd.underlying4 _) trodAll_mk0)) (fun sp hsp => ?_) (fun _ _ => rfl) rfl hO (ok_one (by kernel_rfl) rfl (okWide_bool_mk Tryd.underlying4 _))⟩
  refine Go.Sx.trodAll_old Ro.laid hO ?_ hAA (fun x hx => hsp x (List.mem_append_left _ hx)) (fun x hx => hW'.lt x (List.mem_append_left _ hx))
  intro t ht
  have ht : t ∈ [44, 3, 37] := ht
  simp only [List.mem_cons, List.not_mem_nil, or_false] at ht
  rcases ht with rfl | rfl | rfl
  all_goals exact ⟨by kernel_rfl, of_decide_eq_true (by kernel_rfl)⟩

set_option maxRecDepth 100000 in
theorem lifted (os : Os) (started : os.Started) (H : Type) (enc : TypeId × Value → H) :
    ReturnsInHanded {} Tryd.checked os 7 .any (fun w args => (Rows.coreTornSpec.pre enc Tryd.prog Tryd.f7 Rows.coreTornRow.domain false w args ∧ laidMetH Tryd.prog Rows.coreTornRow.laid w) ∧ sizedMet enc Tryd.prog Tryd.f7 (OpenSpec.ofChange Rows.coreTornSpec) false w args)
      (Rows.coreTornSpec.post enc Tryd.prog Tryd.f7 false true false false) := by
  refine returnsInHanded_of_change_and (C := Tryd.checked) (X := fun w _ => laidMetH Tryd.prog Rows.coreTornRow.laid w) (fun _ _ _ hh h => h.of_heap hh) Ro.own started (by kernel_rfl) Tryd.func7
    (ChangeSpec.witness_shaped (enc := enc) (C := Tryd.checked) (os := os) (X := fun w _ => laidMetH Tryd.prog Rows.coreTornRow.laid w) false (World.laidAll Tryd.prog os Rows.coreTornRow.laid) #[.slice none 0 0, .int .i64 0, .slice none 0 0] 8 (World.laidAll_os _ _ _)
      (World.shaped_of_ZipB (by kernel_rfl) (by kernel_rfl)) (by kernel_rfl) (by kernel_rfl) (by kernel_rfl)
      (by rw [MakeChecks.laidMetH_plain _ _ _ (by kernel_rfl)]; exact laidMet_laidAll _ (by kernel_rfl) (by kernel_rfl))) ?_
  intro W base args ds gs before hval0 hW hc _ hL _
  exact contract H enc W base args ds gs before hval0 hW

theorem over : Rows.coreTornRow.holds Tryd.pinned (OpenSpec.ofChange Rows.coreTornSpec) :=
  OpenClaim.holds_of_wide 7 Tryd.f7 rfl rfl rfl rfl rfl rfl rfl ⟨rfl, rfl, rfl, rfl, rfl⟩ rfl rfl rfl rfl rfl (by kernel_rfl) Tryd.func7 (by kernel_rfl)
    (of_decide_eq_true (by kernel_rfl)) (by unfold Func.isWrapper; first | (rw [if_pos (by decide +kernel)]; kernel_rfl) | (rw [if_neg (by decide +kernel)]; exact ⟨rfl, rfl⟩))
    (fun os started H enc _ => lifted os started H enc)

/-- the statement -/
theorem proved : Rows.CoreTornCardSaid :=
  Claim7.holds_tied_plain_at .later [] [.data, .pinned] true (true, "c1fa46d363d5300aa757324af634017ca176d16c007d0eeb3784fd8de0e2e8d3") false over (fun _ h => by cases h) (by kernel_rfl) (fun _ h => by cases h) coreTorn_row_tie rfl ⟨rfl, rfl⟩ (by kernel_rfl) rfl
    (fun f fn hf hfn => by
      obtain rfl : f = 7 := Option.some.inj ((show Tryd.prog.funcNamed "engross/engrosslaw19.CoreTorn" = some 7 by kernel_rfl).symm.trans hf) |>.symm
      obtain rfl : fn = Tryd.f7 := (Option.some.inj (Tryd.func7.symm.trans hfn)).symm
      exact ⟨by kernel_rfl, fun j t ht => by
        rw [Tryd.params7] at ht
        have hm : t ∈ [44, 3, 37] := by simpa using Array.mem_of_getElem? ht
        have hall : ([44, 3, 37].all fun u => !Tryd.prog.wantsStandIn u) = true := by kernel_rfl
        exact (show Tryd.prog.wantsStandIn t = false by simpa using List.all_eq_true.1 hall t hm)⟩)
    (by kernel_rfl)
#print axioms proved
end Go.Proofs.YtoalhcodigpgkaaDoor.coreTorn
