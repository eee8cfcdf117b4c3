/- What is read of the laws' arguments: catalogs, snapshots, rows of bytes, numbers, names, Bools. -/
import Derived.Test.YtpijialhhdpobaaSxO
import Derived.Test.YtpijialhhdpobaaSxT
import Derived.Test.YtpijialhhdpobaaPlB
namespace Go.Proofs.Ytpijialhhdpobaa.Ro
open Go Go.Sx Go.Pl Go.ChangeShapes Go.WideShapes
set_option linter.constructorNameAsVariable false

theorem own : ownKnob Try.prog.godebug = none := by kernel_rfl
theorem laid : laidOutB Try.prog = true := by kernel_rfl

theorem list_parts {cs : List Value} {a b c : Value} {m : List Value} (hl : cs.length = 35) (h0 : (cs.drop 0).take 1 = [a]) (h1 : (cs.drop 1).take 1 = [b]) (h2 : (cs.drop 2).take 1 = [c]) (h3 : (cs.drop 3).take 32 = m) : cs = a :: b :: c :: m := by
  match cs, hl with
  | x :: y :: z :: r, hl =>
    simp only [List.drop_zero, List.take_succ_cons, List.take_zero, List.cons.injEq, and_true] at h0
    simp only [List.drop_succ_cons, List.drop_zero, List.take_succ_cons, List.take_zero, List.cons.injEq, and_true] at h1 h2
    simp only [List.drop_succ_cons, List.drop_zero] at h3
    rw [List.take_of_length_le (by simp only [List.length_cons] at hl; omega)] at h3
    rw [h0, h1, h2, h3]
theorem reads_map : Reads Try.prog 40 (fun xs : List Int => xs.flatMap Go.Sx.encI) fun xs => xs.length = 32 ∧ ∀ x ∈ xs, -9223372036854775808 ≤ x ∧ x ≤ 9223372036854775807 :=
  reads_array (sz := 1) Try.underlying40 (by kernel_rfl) (by kernel_rfl) (reads_i64 Try.underlying3)
theorem flat_ints (l : List Int) : l.flatMap Go.Sx.encI = l.map (Value.int .i64) := by
  induction l with
  | nil => rfl
  | cons x l ih => simpa using ih
theorem c40 : Try.prog.cellsOf 40 = 32 := by kernel_rfl
theorem c9 : Try.prog.cellsOf 9 = 1 := by kernel_rfl
theorem c2 : Try.prog.cellsOf 2 = 1 := by kernel_rfl
theorem c4 : Try.prog.cellsOf 4 = 1 := by kernel_rfl
theorem c42 : Try.prog.cellsOf 42 = 35 := by kernel_rfl
theorem c24 : Try.prog.cellsOf 24 = 2 := by kernel_rfl
theorem c22 : Try.prog.cellsOf 22 = 1 := by kernel_rfl
theorem t24 : Try.prog.cellTypes Try.prog.depth 24 = some [2, 22] := by kernel_rfl
theorem reads_snap : Reads Try.prog 42 encSnap fun s => (encSnap s).length = 35 := by
  intro H enc w base spare held n cs x h
  have hl := struct_len Try.underlying42 h
  rw [c42] at hl
  obtain ⟨nm, h0, _⟩ := reads_field Try.underlying42 (i := 0) (f := { name := "Name", type := 9, offset := 0, embedded := false, tag := "", pkgPath := "", byteOffset := 0 }) rfl (reads_string Try.underlying9) h
  obtain ⟨id, h1, _⟩ := reads_field Try.underlying42 (i := 1) (f := { name := "Id", type := 2, offset := 1, embedded := false, tag := "", pkgPath := "", byteOffset := 16 }) rfl (reads_i64 Try.underlying2) h
  obtain ⟨iv, h2, _⟩ := reads_field Try.underlying42 (i := 2) (f := { name := "Invalid", type := 4, offset := 2, embedded := false, tag := "", pkgPath := "", byteOffset := 24 }) rfl (reads_bool Try.underlying4) h
  obtain ⟨m, h3, hm, _⟩ := reads_field Try.underlying42 (i := 3) (f := { name := "Map", type := 40, offset := 3, embedded := false, tag := "", pkgPath := "", byteOffset := 32 }) rfl reads_map h
  dsimp only at h0 h1 h2 h3
  rw [c9] at h0
  rw [c2] at h1
  rw [c4] at h2
  rw [c40, flat_ints] at h3
  refine ⟨⟨nm, id, iv, m⟩, list_parts hl h0 h1 h2 h3, ?_⟩
  show (encSnap ⟨nm, id, iv, m⟩).length = 35
  rw [len_snap]
  show m.length + 3 = 35
  omega

section
variable {H : Type} {enc : TypeId × Value → H} {W : World}
set_option maxRecDepth 100000 in
theorem open_cat {r : Reach} {b0 : Nat} {v : Value} {d : DataW H} {p : List MemPlace} (hok : Value.okWide Try.prog W r b0 24 v) (h : DataW.Trod enc Try.prog W 0 (fun _ => true) true 24 v d p) :
    ∃ (n : Int) (vc : Value) (xs : List Snap), v = .agg ⟨[.int .i64 n, vc]⟩ ∧ Row encSnap 35 [all W] vc xs ∧ xs.length ≤ maxLen := by
  obtain ⟨cs, rfl, hsz, hrow⟩ := Go.Sx.okWide_struct Try.underlying24 hok
  obtain ⟨fuel, h⟩ := h
  rw [c24] at hsz
  obtain ⟨L⟩ := cs
  match L, hsz, hrow, h with
  | [a, b], _, hrow, h =>
    have hb := row_cell t24 hrow (i := 1) (v := b) rfl (u := 22) rfl
    obtain ⟨n, h0, _⟩ := reads_field Try.underlying24 (i := 0) (f := { name := "Next", type := 2, offset := 0, embedded := false, tag := "", pkgPath := "", byteOffset := 0 }) rfl (reads_i64 Try.underlying2) h
    dsimp only at h0
    rw [c2] at h0
    have ha : a = .int .i64 n := by
      have : [a] = [Value.int .i64 n] := h0
      injection this
    obtain ⟨xs, hr, hl, _⟩ := field_row (e := encSnap) (Q := fun s => (encSnap s).length = 35) (i := 1) Try.underlying24 (f := { name := "Snaps", type := 22, offset := 1, embedded := false, tag := "", pkgPath := "", byteOffset := 8 }) rfl rfl Try.underlying22 c42 reads_snap hb
      (by dsimp only; rw [c22]; rfl) h fun s => by
      by_cases hq : (encSnap s).length = 35
      · exact .inl hq
      · exact .inr hq
    exact ⟨n, b, xs, by rw [ha], hr, hl⟩
end
end Go.Proofs.Ytpijialhhdpobaa.Ro
