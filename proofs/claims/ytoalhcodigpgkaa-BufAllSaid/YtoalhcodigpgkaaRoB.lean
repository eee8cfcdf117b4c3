/- What is read of BufAll's argument: a row of operations. -/
import Derived.Test.YtoalhcodigpgkaaRoA
import Derived.Test.YtoalhcodigpgkaaPhE
namespace Go.Proofs.Ytoalhcodigpgkaa.Ro
open Go Go.Sx Go.Pl Go.ChangeShapes Go.WideShapes
set_option linter.constructorNameAsVariable false
theorem c41 : Try.prog.cellsOf 41 = 3 := by kernel_rfl
theorem c3 : Try.prog.cellsOf 3 = 1 := by kernel_rfl
theorem c5 : Try.prog.cellsOf 5 = 1 := by kernel_rfl
theorem reads_op : Reads Try.prog 41 encOp fun o => -9223372036854775808 ≤ o.no ∧ o.no ≤ 9223372036854775807 := by
  intro H enc w base spare held n cs x h
  have hl := struct_len Try.underlying41 h
  rw [c41] at hl
  obtain ⟨a, h0, _⟩ := reads_field Try.underlying41 (i := 0) (f := { name := "Kind", type := 3, offset := 0, embedded := false, tag := "", pkgPath := "", byteOffset := 0 }) rfl (reads_i64 Try.underlying3) h
  obtain ⟨b, h1, hb⟩ := reads_field Try.underlying41 (i := 1) (f := { name := "No", type := 3, offset := 1, embedded := false, tag := "", pkgPath := "", byteOffset := 8 }) rfl (reads_i64 Try.underlying3) h
  obtain ⟨c, h2, _⟩ := reads_field Try.underlying41 (i := 2) (f := { name := "X", type := 5, offset := 2, embedded := false, tag := "", pkgPath := "", byteOffset := 16 }) rfl (reads_u8 Try.underlying5) h
  dsimp only at h0 h1 h2
  rw [c3] at h0 h1
  rw [c5] at h2
  refine ⟨⟨a, b, c⟩, ?_, hb⟩
  match cs, hl with
  | [p, q, r], _ =>
    simp only [List.drop_zero, List.take_succ_cons, List.take_zero, List.drop_succ_cons] at h0 h1 h2
    have e0 : p = .int .i64 a := by injection h0
    have e1 : q = .int .i64 b := by injection h1
    have e2 : r = .int .u8 c.toNat := by injection h2
    rw [e0, e1, e2]; rfl
end Go.Proofs.Ytoalhcodigpgkaa.Ro
