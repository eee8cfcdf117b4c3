/- How plain data lie in cells; numbers and bytes. No program in sight. -/
import Derived.Test.YtoalhcodigpgkaaSxH
namespace Go.Sx
open Go

abbrev encB : UInt8 → List Value := fun c => [.int .u8 c.toNat]
abbrev encI : Int → List Value := fun n => [.int .i64 n]
abbrev encS : ByteArray → List Value := fun s => [.string s]
abbrev encBool : Bool → List Value := fun b => [.bool b]
/-- a text out of its letters -/
abbrev txt (l : List UInt8) : ByteArray := ⟨⟨l⟩⟩
theorem txt_toList (s : ByteArray) : txt s.data.toList = s := rfl

theorem ones_B (xs : List UInt8) : ones (xs.flatMap encB) = true := bytes_ones (fun _ => rfl) xs
theorem ones_I (xs : List Int) : ones (xs.flatMap encI) = true := by
  unfold ones; induction xs with
  | nil => rfl
  | cons c l ih => simp [oneC]
theorem ones_S (xs : List ByteArray) : ones (xs.flatMap encS) = true := by
  unfold ones; induction xs with
  | nil => rfl
  | cons c l ih => simp [oneC]

theorem u8_byte (c : UInt8) : (0 : Int) ≤ c.toNat ∧ (c.toNat : Int) ≤ 255 := by have := c.toNat_lt; omega
theorem wrap_u8 (n : Nat) : IntKind.u8.wrap (n : Int) = ((UInt8.ofNat n).toNat : Int) := by
  rw [IntKind.wrap_u8, UInt8.toNat_ofNat']; omega
theorem wrap_i64 {n : Int} (h : -9223372036854775808 ≤ n) (h2 : n ≤ 9223372036854775807) : IntKind.i64.wrap n = n := IntWalk.i64_in n ⟨h, h2⟩
theorem wrap_u64 {n : Int} (h : 0 ≤ n) (h2 : n ≤ 18446744073709551615) : IntKind.u64.wrap n = n := IntWalk.u64_in n ⟨h, h2⟩
theorem int_eq {k : IntKind} {a b : Int} (h : a = b) : Value.int k a = .int k b := by rw [h]
theorem splice_one {cs : List Value} {o : Nat} (v : Value) (h : o < cs.length) : splice cs o [v] = cs.set o v := by
  unfold splice
  have := list_seg_step cs o v [] (by simp only [List.length_nil]; omega)
  simp only [List.length_nil, Nat.zero_add, List.length_cons, List.append_nil, Nat.add_zero] at this ⊢
  rw [← this, List.take_append_drop]
end Go.Sx
