/- Numbers as bytes, in plain words; and the arithmetic that the program does on them. No program in sight. -/
import Derived.Test.YtoalhcodigpgkaaSxI
namespace Go.Pl
open Go Go.Sx

theorem drop_cons {α : Type} {l : List α} {i : Nat} {x : α} (h : l[i]? = some x) : l.drop i = x :: l.drop (i + 1) := by
  have hi : i < l.length := (List.getElem?_eq_some_iff.1 h).1
  rw [List.getElem?_eq_getElem hi] at h
  rw [← Option.some.inj h]
  exact List.drop_eq_getElem_cons hi
theorem take_succ {α : Type} {l : List α} {i : Nat} {x : α} (h : l[i]? = some x) : l.take (i + 1) = l.take i ++ [x] := by
  have hi : i < l.length := (List.getElem?_eq_some_iff.1 h).1
  rw [List.take_succ_eq_append_getElem hi]
  rw [List.getElem?_eq_getElem hi] at h
  rw [Option.some.inj h]
theorem nth {α : Type} {l : List α} {i : Nat} (h : i < l.length) : ∃ x, l[i]? = some x := ⟨_, List.getElem?_eq_getElem h⟩

def zig (n : Int) : Nat := if n < 0 then (-2 * n - 1).toNat else (2 * n).toNat
def putU (u : Nat) : List UInt8 := if u < 128 then [UInt8.ofNat u] else UInt8.ofNat (u % 128 + 128) :: putU (u / 128)
termination_by u
decreasing_by omega
def put (n : Int) : List UInt8 := putU (zig n)

theorem zig_lt {n : Int} (h1 : -9223372036854775808 ≤ n) (h2 : n ≤ 9223372036854775807) : zig n < 18446744073709551616 := by unfold zig; split <;> omega

theorem not64 (x : Int) (h0 : 0 ≤ x) (h1 : x ≤ 18446744073709551615) :
    IntKind.u64.wrap ((BitVec.ofInt IntKind.u64.bits (if IntKind.u64.signed then -1 else IntKind.u64.max) ^^^ BitVec.ofInt IntKind.u64.bits x).toNat : Int) = 18446744073709551615 - x := by
  show IntKind.u64.wrap (((BitVec.ofInt 64 18446744073709551615 ^^^ BitVec.ofInt 64 x).toNat : Nat) : Int) = _
  have e1 : BitVec.ofInt 64 18446744073709551615 = BitVec.allOnes 64 := by decide
  rw [e1, BitVec.allOnes_xor, BitVec.toNat_not, BitVec.toNat_ofInt, wrap_u64 (by omega) (by omega)]
  omega

theorem or128 : ∀ x : Fin 256, IntKind.u8.wrap ((BitVec.ofInt IntKind.u8.bits (x.val : Int) ||| BitVec.ofInt IntKind.u8.bits 128).toNat : Int) = ((x.val % 128 + 128 : Nat) : Int) := by decide +kernel

theorem u8_mod (u : Nat) : IntKind.u8.wrap (u : Int) = ((u % 256 : Nat) : Int) := by rw [IntKind.wrap_u8]; omega
theorem byteOr (u : Nat) : IntKind.u8.wrap ((BitVec.ofInt IntKind.u8.bits (IntKind.u8.wrap (u : Int)) ||| BitVec.ofInt IntKind.u8.bits 128).toNat : Int) = ((UInt8.ofNat (u % 128 + 128)).toNat : Int) := by
  rw [u8_mod u]
  have := or128 ⟨u % 256, by omega⟩
  simp only at this
  rw [this, UInt8.toNat_ofNat']
  omega
theorem shr7 (u : Nat) : (u : Int).fdiv (2 ^ min (7 : Int).toNat IntKind.u64.bits) = ((u / 128 : Nat) : Int) := by
  have : (2 : Int) ^ min (7 : Int).toNat IntKind.u64.bits = 128 := by decide
  rw [this, Int.fdiv_eq_ediv_of_nonneg _ (by omega)]
  omega
theorem shl1_pos {n : Int} (h0 : 0 ≤ n) (h2 : n ≤ 9223372036854775807) : IntKind.u64.wrap (IntKind.u64.wrap n * 2 ^ min (1 : Int).toNat IntKind.u64.bits) = ((zig n : Nat) : Int) := by
  have : (2 : Int) ^ min (1 : Int).toNat IntKind.u64.bits = 2 := by decide
  rw [this, wrap_u64 h0 (by omega), wrap_u64 (by omega) (by omega)]
  unfold zig
  rw [if_neg (by omega)]
  omega
theorem shl1_neg {n : Int} (h0 : n < 0) (h1 : -9223372036854775808 ≤ n) : IntKind.u64.wrap (IntKind.u64.wrap n * 2 ^ min (1 : Int).toNat IntKind.u64.bits) = 18446744073709551616 + 2 * n := by
  have : (2 : Int) ^ min (1 : Int).toNat IntKind.u64.bits = 2 := by decide
  rw [this, IntKind.wrap_u64, IntKind.wrap_u64]
  omega
theorem putU_length : ∀ (k u : Nat), u < 128 ^ (k + 1) → (putU u).length ≤ k + 1 := by
  intro k
  induction k with
  | zero => intro u h; rw [putU, if_pos (by simpa using h)]; simp
  | succ k ih =>
    intro u h
    rw [putU]
    split
    · simp
    · have : u / 128 < 128 ^ (k + 1) := by
        rw [Nat.div_lt_iff_lt_mul (by omega)]
        rw [Nat.pow_succ] at h
        exact h
      have := ih _ this
      simp only [List.length_cons]
      omega
theorem putU_ten (u : Nat) (h : u < 18446744073709551616) : (putU u).length ≤ 10 := putU_length 9 u (Nat.lt_of_lt_of_le h (by decide))
theorem put_ten {n : Int} (h1 : -9223372036854775808 ≤ n) (h2 : n ≤ 9223372036854775807) : (put n).length ≤ 10 := putU_ten _ (zig_lt h1 h2)
theorem putU_big {u : Nat} (h : ¬ u < 128) : putU u = UInt8.ofNat (u % 128 + 128) :: putU (u / 128) := by rw [putU, if_neg h]
theorem putU_small {u : Nat} (h : u < 128) : putU u = [UInt8.ofNat u] := by rw [putU, if_pos h]
theorem tmod128 (u : Nat) : (u : Int).tmod 128 = ((u % 128 : Nat) : Int) := by rw [Int.tmod_eq_emod_of_nonneg (by omega)]; omega
theorem tdiv128 (u : Nat) : (u : Int).tdiv 128 = ((u / 128 : Nat) : Int) := by rw [Int.tdiv_eq_ediv_of_nonneg (by omega)]; omega
def putText (s : ByteArray) : List UInt8 := put s.size ++ s.data.toList

/-! ### reading a number -/
def unzig (u : Nat) : Int := if u % 2 = 1 then -((u / 2 : Nat) : Int) - 1 else ((u / 2 : Nat) : Int)
def getL : Nat → Nat → List UInt8 → Int × Int × Int
  | _, _, [] => (0, 0, 2)
  | i, u, c :: l =>
    if i = 9 ∧ 1 < c.toNat then (0, 0, 1)
    else if 127 < c.toNat then getL (i + 1) (u + c.toNat % 128 * 128 ^ i) l
    else if 0 < i ∧ c.toNat = 0 then (0, 0, 1)
    else (unzig (u + c.toNat % 128 * 128 ^ i), ((i + 1 : Nat) : Int), 0)
def get (l : List UInt8) : Int × Int × Int := getL 0 0 l

theorem and127 : ∀ x : Fin 256, IntKind.u8.wrap ((BitVec.ofInt IntKind.u8.bits (x.val : Int) &&& BitVec.ofInt IntKind.u8.bits 127).toNat : Int) = ((x.val % 128 : Nat) : Int) := by decide +kernel
theorem byteAnd (c : UInt8) : IntKind.u8.wrap ((BitVec.ofInt IntKind.u8.bits (c.toNat : Int) &&& BitVec.ofInt IntKind.u8.bits 127).toNat : Int) = ((c.toNat % 128 : Nat) : Int) := and127 ⟨c.toNat, c.toNat_lt⟩
theorem ofInt64 {x : Nat} (h : x < 18446744073709551616) : (BitVec.ofInt 64 (x : Int)).toNat = x := by rw [BitVec.toNat_ofInt]; omega
theorem or64 {a b : Nat} (ha : a < 18446744073709551616) (hb : b < 18446744073709551616) :
    IntKind.u64.wrap ((BitVec.ofInt IntKind.u64.bits (a : Int) ||| BitVec.ofInt IntKind.u64.bits (b : Int)).toNat : Int) = ((a ||| b : Nat) : Int) := by
  show IntKind.u64.wrap (((BitVec.ofInt 64 (a : Int) ||| BitVec.ofInt 64 (b : Int)).toNat : Nat) : Int) = _
  rw [BitVec.toNat_or, ofInt64 ha, ofInt64 hb]
  have : a ||| b < 2 ^ 64 := Nat.or_lt_two_pow (by simpa using ha) (by simpa using hb)
  exact wrap_u64 (by omega) (by omega)
theorem and64_1 {a : Nat} (ha : a < 18446744073709551616) : IntKind.u64.wrap ((BitVec.ofInt IntKind.u64.bits (a : Int) &&& BitVec.ofInt IntKind.u64.bits 1).toNat : Int) = ((a % 2 : Nat) : Int) := by
  show IntKind.u64.wrap (((BitVec.ofInt 64 (a : Int) &&& BitVec.ofInt 64 ((1 : Nat) : Int)).toNat : Nat) : Int) = _
  rw [BitVec.toNat_and, ofInt64 ha, ofInt64 (by omega), Nat.and_one_is_mod]
  exact wrap_u64 (by omega) (by omega)
theorem not64i {n : Int} (h0 : 0 ≤ n) (h1 : n ≤ 9223372036854775807) :
    IntKind.i64.wrap ((BitVec.ofInt IntKind.i64.bits (if IntKind.i64.signed then -1 else IntKind.i64.max) ^^^ BitVec.ofInt IntKind.i64.bits n).toNat : Int) = -n - 1 := by
  show IntKind.i64.wrap (((BitVec.ofInt 64 (-1) ^^^ BitVec.ofInt 64 n).toNat : Nat) : Int) = _
  have e1 : BitVec.ofInt 64 (-1) = BitVec.allOnes 64 := by decide
  rw [e1, BitVec.allOnes_xor, BitVec.toNat_not, BitVec.toNat_ofInt, IntKind.wrap_i64]
  omega
theorem p128 (i : Nat) : (128 : Nat) ^ i = 2 ^ (7 * i) := by rw [Nat.pow_mul]
theorem p128_le {i : Nat} (h : i ≤ 9) : (128 : Nat) ^ i ≤ 9223372036854775808 := by
  have : (128 : Nat) ^ i ≤ 128 ^ 9 := Nat.pow_le_pow_right (by omega) h
  have e : (128 : Nat) ^ 9 = 9223372036854775808 := by decide
  omega
theorem get_step {i u : Nat} {c : UInt8} (hi : i ≤ 9) (hu : u < 128 ^ i) (hc : ¬ (i = 9 ∧ 1 < c.toNat)) : u + c.toNat % 128 * 128 ^ i < 18446744073709551616 := by
  have h1 := p128_le hi
  by_cases h9 : i = 9
  · subst h9
    have e : (128 : Nat) ^ 9 = 9223372036854775808 := by decide
    rw [e] at hu ⊢
    have hc1 : c.toNat ≤ 1 := by omega
    have : c.toNat % 128 ≤ 1 := by omega
    omega
  · have h2 : (128 : Nat) ^ (i + 1) ≤ 128 ^ 9 := Nat.pow_le_pow_right (by omega) (by omega)
    have e : (128 : Nat) ^ 9 = 9223372036854775808 := by decide
    rw [e, Nat.pow_succ] at h2
    have h3 : c.toNat % 128 * 128 ^ i ≤ 127 * 128 ^ i := Nat.mul_le_mul_right _ (by omega)
    omega
theorem get_next {i u : Nat} {c : UInt8} (hu : u < 128 ^ i) : u + c.toNat % 128 * 128 ^ i < 128 ^ (i + 1) := by
  rw [Nat.pow_succ]
  have h3 : c.toNat % 128 * 128 ^ i ≤ 127 * 128 ^ i := Nat.mul_le_mul_right _ (by omega)
  omega
theorem get_shl {i : Nat} {x : Nat} (hi : i ≤ 9) (h : x * 128 ^ i < 18446744073709551616) :
    IntKind.u64.wrap (IntKind.u64.wrap (x : Int) * 2 ^ min (IntKind.i64.wrap (7 * (i : Int))).toNat IntKind.u64.bits) = ((x * 128 ^ i : Nat) : Int) := by
  have hpos : 1 ≤ (128 : Nat) ^ i := Nat.one_le_pow _ _ (by omega)
  have hx : x ≤ x * 128 ^ i := Nat.le_mul_of_pos_right _ hpos
  rw [wrap_i64 (by omega) (by omega), wrap_u64 (n := (x : Int)) (by omega) (by omega)]
  have e1 : min (7 * (i : Int)).toNat IntKind.u64.bits = 7 * i := by
    have : IntKind.u64.bits = 64 := rfl
    omega
  rw [e1]
  have e2 : (x : Int) * 2 ^ (7 * i) = ((x * 128 ^ i : Nat) : Int) := by
    rw [p128]; simp
  rw [e2]
  exact wrap_u64 (by omega) (by omega)
theorem get_or {i u x : Nat} (hi : i ≤ 9) (hu : u < 128 ^ i) (h : x * 128 ^ i < 18446744073709551616) :
    IntKind.u64.wrap ((BitVec.ofInt IntKind.u64.bits (u : Int) ||| BitVec.ofInt IntKind.u64.bits ((x * 128 ^ i : Nat) : Int)).toNat : Int) = ((u + x * 128 ^ i : Nat) : Int) := by
  have h1 := p128_le hi
  rw [or64 (by omega) h]
  congr 1
  rw [Nat.add_comm, Nat.or_comm, p128, Nat.mul_comm]
  rw [p128] at hu
  exact (Nat.two_pow_add_eq_or_of_lt hu x).symm
theorem unzig_even {u : Nat} (h : u < 18446744073709551616) : IntKind.i64.wrap ((u : Int).fdiv (2 ^ min (1 : Int).toNat IntKind.u64.bits)) = ((u / 2 : Nat) : Int) := by
  have : (2 : Int) ^ min (1 : Int).toNat IntKind.u64.bits = 2 := by decide
  rw [this, Int.fdiv_eq_ediv_of_nonneg _ (by omega), wrap_i64 (by omega) (by omega)]
  omega
/-- reading a text -/
def getText (l : List UInt8) : ByteArray × Int × Int :=
  match get l with
  | (n, k, e) =>
    if e ≠ 0 then (txt [], 0, e) else if n < 0 ∨ 65536 < n then (txt [], 0, 1)
    else if (l.length : Int) - k < n then (txt [], 0, 2) else (txt ((l.take (k + n).toNat).drop k.toNat), k + n, 0)
def cutS (s : ByteArray) (n : Nat) : ByteArray := if n < s.size then s.extract 0 n else s
def nameB (s : ByteArray) : Bool := decide (1 ≤ s.size ∧ s.size ≤ 8)
theorem size_zero_iff (s : ByteArray) : s.size = 0 ↔ s = ⟨#[]⟩ := by
  constructor
  · intro h; cases s with | mk d => congr 1; exact Array.eq_empty_of_size_eq_zero h
  · intro h; subst h; rfl
theorem getL_k : ∀ (l : List UInt8) (i u : Nat), (getL i u l).2.2 = 0 → (i : Int) < (getL i u l).2.1 ∧ (getL i u l).2.1 ≤ (i : Int) + l.length := by
  intro l
  induction l with
  | nil => intro i u h; simp [getL] at h
  | cons c l ih =>
    intro i u
    rw [getL]
    split
    · intro h; simp at h
    · split
      · intro h
        have := ih _ _ h
        simp only [List.length_cons]
        omega
      · split
        · intro h; simp at h
        · intro _; simp only [List.length_cons]; omega
theorem get_k {l : List UInt8} (h : (get l).2.2 = 0) : 0 < (get l).2.1 ∧ (get l).2.1 ≤ l.length := by
  have := getL_k l 0 0 h
  unfold get
  omega
end Go.Pl
