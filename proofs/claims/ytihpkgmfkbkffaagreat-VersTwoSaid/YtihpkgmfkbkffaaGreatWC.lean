/- Several texts in one. Numbers as bytes, in plain words; and the arithmetic that the program does on them. No program in sight. Keys in their order; values; cells: which may be, as bytes. No program in sight. Nodes: which may be, as a page, cut in two. No program in sight. A number, a text: written, then read. No program in sight. Values and cells, read back. No program in sight. Catalogs, in plain words: as the program goes through them, and as the document does. No program in sight. Catalogs as bytes, in plain words. No program in sight. Catalogs read back, in plain words. No program in sight. What reading a value tells, case by case. No program in sight. Keys: between which, the shortest between two. No program in sight. What reading a cell tells, case by case. No program in sight. Nodes in memory; what a look at their cells, keys, kids in turn tells. No program in sight. A node's bytes, as far as one has got. No program in sight. A node read off a page: one page has one node. No program in sight. A node whose slices are its own. No program in sight. Images: pages that are changed, plainly, as bytes, in memory; laid over pages. No program in sight. Pages that may be asked, changes of pages, which pages are in use. No program in sight. A book of pages in memory. No program in sight. Sheets: pages that are changed above others; what lies below may fail for good. No program in sight. Where a key stands among rising ones. No program in sight. Which pages are in use: taken, given back, counted; the tree's first page. No program in sight. What slices.Insert does to memory: cap, append to a new array, an overlapping copy, overlaps. No program in sight. What the tree's functions compute, step by step. No program in sight. Texts compared; the order of keys again. No program in sight. Structs and slices within statements whose order is open. No program in sight. What insert, remove compute, unfolded. No program in sight. What remove, shrink compute, unfolded; changes laid. No program in sight. What Put, Del compute, unfolded. No program in sight. What Get, Scan, Pages compute, unfolded. No program in sight. -/
import Derived.Test.YtihpkgmfkbkffaaGreatWA
import Derived.Test.YtihpkgmfkbkffaaGreatWB
import Derived.Laws.IdiomStrings
import Derived.Lib.Overlaps
import Derived.Laws.Externs
import Derived.Lib.Bytealg
set_option linter.unusedVariables false
set_option linter.unusedSimpArgs false
set_option linter.unusedSectionVars false

section
namespace Go.Pl
open Go Go.Sx

theorem take_succ {α : Type} {l : List α} {i : Nat} {x : α} (h : l[i]? = some x) : l.take (i + 1) = l.take i ++ [x] := by
  have hi : i < l.length := (List.getElem?_eq_some_iff.1 h).1
  rw [List.take_succ_eq_append_getElem hi]
  rw [List.getElem?_eq_getElem hi] at h
  rw [Option.some.inj h]
theorem nth {α : Type} {l : List α} {i : Nat} (h : i < l.length) : ∃ x, l[i]? = some x := ⟨_, List.getElem?_eq_getElem h⟩

def zig (n : Int) : Nat := if n < 0 then (-2 * n - 1).toNat else (2 * n).toNat
def putU (u : Nat) : List UInt8 := if u < 128 then [UInt8.ofNat u] else UInt8.ofNat (u % 128 + 128) :: putU (u / 128)
termination_by u
decreasing_by omega
def put (n : Int) : List UInt8 := putU (zig n)

theorem zig_lt {n : Int} (h1 : -9223372036854775808 ≤ n) (h2 : n ≤ 9223372036854775807) : zig n < 18446744073709551616 := by unfold zig; split <;> omega

theorem not64 (x : Int) (h0 : 0 ≤ x) (h1 : x ≤ 18446744073709551615) :
    IntKind.u64.wrap ((BitVec.ofInt IntKind.u64.bits (if IntKind.u64.signed then -1 else IntKind.u64.max) ^^^ BitVec.ofInt IntKind.u64.bits x).toNat : Int) = 18446744073709551615 - x := by
  show IntKind.u64.wrap (((BitVec.ofInt 64 18446744073709551615 ^^^ BitVec.ofInt 64 x).toNat : Nat) : Int) = _
  have e1 : BitVec.ofInt 64 18446744073709551615 = BitVec.allOnes 64 := by decide
  rw [e1, BitVec.allOnes_xor, BitVec.toNat_not, BitVec.toNat_ofInt, wrap_u64 (by omega) (by omega)]
  omega

theorem or128 : ∀ x : Fin 256, IntKind.u8.wrap ((BitVec.ofInt IntKind.u8.bits (x.val : Int) ||| BitVec.ofInt IntKind.u8.bits 128).toNat : Int) = ((x.val % 128 + 128 : Nat) : Int) := by decide +kernel

theorem u8_mod (u : Nat) : IntKind.u8.wrap (u : Int) = ((u % 256 : Nat) : Int) := by rw [IntKind.wrap_u8]; omega
theorem byteOr (u : Nat) : IntKind.u8.wrap ((BitVec.ofInt IntKind.u8.bits (IntKind.u8.wrap (u : Int)) ||| BitVec.ofInt IntKind.u8.bits 128).toNat : Int) = ((UInt8.ofNat (u % 128 + 128)).toNat : Int) := by
  rw [u8_mod u]
  have := or128 ⟨u % 256, by omega⟩
  simp only at this
  rw [this, UInt8.toNat_ofNat']
  omega
theorem shr7 (u : Nat) : (u : Int).fdiv (2 ^ min (7 : Int).toNat IntKind.u64.bits) = ((u / 128 : Nat) : Int) := by
  have : (2 : Int) ^ min (7 : Int).toNat IntKind.u64.bits = 128 := by decide
  rw [this, Int.fdiv_eq_ediv_of_nonneg _ (by omega)]
  omega
theorem shl1_pos {n : Int} (h0 : 0 ≤ n) (h2 : n ≤ 9223372036854775807) : IntKind.u64.wrap (IntKind.u64.wrap n * 2 ^ min (1 : Int).toNat IntKind.u64.bits) = ((zig n : Nat) : Int) := by
  have : (2 : Int) ^ min (1 : Int).toNat IntKind.u64.bits = 2 := by decide
  rw [this, wrap_u64 h0 (by omega), wrap_u64 (by omega) (by omega)]
  unfold zig
  rw [if_neg (by omega)]
  omega
theorem shl1_neg {n : Int} (h0 : n < 0) (h1 : -9223372036854775808 ≤ n) : IntKind.u64.wrap (IntKind.u64.wrap n * 2 ^ min (1 : Int).toNat IntKind.u64.bits) = 18446744073709551616 + 2 * n := by
  have : (2 : Int) ^ min (1 : Int).toNat IntKind.u64.bits = 2 := by decide
  rw [this, IntKind.wrap_u64, IntKind.wrap_u64]
  omega
theorem putU_length : ∀ (k u : Nat), u < 128 ^ (k + 1) → (putU u).length ≤ k + 1 := by
  intro k
  induction k with
  | zero => intro u h; rw [putU, if_pos (by simpa using h)]; simp
  | succ k ih =>
    intro u h
    rw [putU]
    split
    · simp
    · have : u / 128 < 128 ^ (k + 1) := by
        rw [Nat.div_lt_iff_lt_mul (by omega)]
        rw [Nat.pow_succ] at h
        exact h
      have := ih _ this
      simp only [List.length_cons]
      omega
theorem putU_ten (u : Nat) (h : u < 18446744073709551616) : (putU u).length ≤ 10 := putU_length 9 u (Nat.lt_of_lt_of_le h (by decide))
theorem put_ten {n : Int} (h1 : -9223372036854775808 ≤ n) (h2 : n ≤ 9223372036854775807) : (put n).length ≤ 10 := putU_ten _ (zig_lt h1 h2)
theorem putU_big {u : Nat} (h : ¬ u < 128) : putU u = UInt8.ofNat (u % 128 + 128) :: putU (u / 128) := by rw [putU, if_neg h]
theorem putU_small {u : Nat} (h : u < 128) : putU u = [UInt8.ofNat u] := by rw [putU, if_pos h]
def putText (s : ByteArray) : List UInt8 := put s.size ++ s.data.toList

/-! ### reading a number -/
def unzig (u : Nat) : Int := if u % 2 = 1 then -((u / 2 : Nat) : Int) - 1 else ((u / 2 : Nat) : Int)
def getL : Nat → Nat → List UInt8 → Int × Int × Int
  | _, _, [] => (0, 0, 2)
  | i, u, c :: l =>
    if i = 9 ∧ 1 < c.toNat then (0, 0, 1)
    else if 127 < c.toNat then getL (i + 1) (u + c.toNat % 128 * 128 ^ i) l
    else if 0 < i ∧ c.toNat = 0 then (0, 0, 1)
    else (unzig (u + c.toNat % 128 * 128 ^ i), ((i + 1 : Nat) : Int), 0)
def get (l : List UInt8) : Int × Int × Int := getL 0 0 l

theorem and127 : ∀ x : Fin 256, IntKind.u8.wrap ((BitVec.ofInt IntKind.u8.bits (x.val : Int) &&& BitVec.ofInt IntKind.u8.bits 127).toNat : Int) = ((x.val % 128 : Nat) : Int) := by decide +kernel
theorem byteAnd (c : UInt8) : IntKind.u8.wrap ((BitVec.ofInt IntKind.u8.bits (c.toNat : Int) &&& BitVec.ofInt IntKind.u8.bits 127).toNat : Int) = ((c.toNat % 128 : Nat) : Int) := and127 ⟨c.toNat, c.toNat_lt⟩
theorem ofInt64 {x : Nat} (h : x < 18446744073709551616) : (BitVec.ofInt 64 (x : Int)).toNat = x := by rw [BitVec.toNat_ofInt]; omega
theorem or64 {a b : Nat} (ha : a < 18446744073709551616) (hb : b < 18446744073709551616) :
    IntKind.u64.wrap ((BitVec.ofInt IntKind.u64.bits (a : Int) ||| BitVec.ofInt IntKind.u64.bits (b : Int)).toNat : Int) = ((a ||| b : Nat) : Int) := by
  show IntKind.u64.wrap (((BitVec.ofInt 64 (a : Int) ||| BitVec.ofInt 64 (b : Int)).toNat : Nat) : Int) = _
  rw [BitVec.toNat_or, ofInt64 ha, ofInt64 hb]
  have : a ||| b < 2 ^ 64 := Nat.or_lt_two_pow (by simpa using ha) (by simpa using hb)
  exact wrap_u64 (by omega) (by omega)
theorem and64_1 {a : Nat} (ha : a < 18446744073709551616) : IntKind.u64.wrap ((BitVec.ofInt IntKind.u64.bits (a : Int) &&& BitVec.ofInt IntKind.u64.bits 1).toNat : Int) = ((a % 2 : Nat) : Int) := by
  show IntKind.u64.wrap (((BitVec.ofInt 64 (a : Int) &&& BitVec.ofInt 64 ((1 : Nat) : Int)).toNat : Nat) : Int) = _
  rw [BitVec.toNat_and, ofInt64 ha, ofInt64 (by omega), Nat.and_one_is_mod]
  exact wrap_u64 (by omega) (by omega)
theorem not64i {n : Int} (h0 : 0 ≤ n) (h1 : n ≤ 9223372036854775807) :
    IntKind.i64.wrap ((BitVec.ofInt IntKind.i64.bits (if IntKind.i64.signed then -1 else IntKind.i64.max) ^^^ BitVec.ofInt IntKind.i64.bits n).toNat : Int) = -n - 1 := by
  show IntKind.i64.wrap (((BitVec.ofInt 64 (-1) ^^^ BitVec.ofInt 64 n).toNat : Nat) : Int) = _
  have e1 : BitVec.ofInt 64 (-1) = BitVec.allOnes 64 := by decide
  rw [e1, BitVec.allOnes_xor, BitVec.toNat_not, BitVec.toNat_ofInt, IntKind.wrap_i64]
  omega
theorem p128 (i : Nat) : (128 : Nat) ^ i = 2 ^ (7 * i) := by rw [Nat.pow_mul]
theorem p128_le {i : Nat} (h : i ≤ 9) : (128 : Nat) ^ i ≤ 9223372036854775808 := by
  have : (128 : Nat) ^ i ≤ 128 ^ 9 := Nat.pow_le_pow_right (by omega) h
  have e : (128 : Nat) ^ 9 = 9223372036854775808 := by decide
  omega
theorem get_step {i u : Nat} {c : UInt8} (hi : i ≤ 9) (hu : u < 128 ^ i) (hc : ¬ (i = 9 ∧ 1 < c.toNat)) : u + c.toNat % 128 * 128 ^ i < 18446744073709551616 := by
  have h1 := p128_le hi
  by_cases h9 : i = 9
  · subst h9
    have e : (128 : Nat) ^ 9 = 9223372036854775808 := by decide
    rw [e] at hu ⊢
    have hc1 : c.toNat ≤ 1 := by omega
    have : c.toNat % 128 ≤ 1 := by omega
    omega
  · have h2 : (128 : Nat) ^ (i + 1) ≤ 128 ^ 9 := Nat.pow_le_pow_right (by omega) (by omega)
    have e : (128 : Nat) ^ 9 = 9223372036854775808 := by decide
    rw [e, Nat.pow_succ] at h2
    have h3 : c.toNat % 128 * 128 ^ i ≤ 127 * 128 ^ i := Nat.mul_le_mul_right _ (by omega)
    omega
theorem get_next {i u : Nat} {c : UInt8} (hu : u < 128 ^ i) : u + c.toNat % 128 * 128 ^ i < 128 ^ (i + 1) := by
  rw [Nat.pow_succ]
  have h3 : c.toNat % 128 * 128 ^ i ≤ 127 * 128 ^ i := Nat.mul_le_mul_right _ (by omega)
  omega
theorem get_shl {i : Nat} {x : Nat} (hi : i ≤ 9) (h : x * 128 ^ i < 18446744073709551616) :
    IntKind.u64.wrap (IntKind.u64.wrap (x : Int) * 2 ^ min (IntKind.i64.wrap (7 * (i : Int))).toNat IntKind.u64.bits) = ((x * 128 ^ i : Nat) : Int) := by
  have hpos : 1 ≤ (128 : Nat) ^ i := Nat.one_le_pow _ _ (by omega)
  have hx : x ≤ x * 128 ^ i := Nat.le_mul_of_pos_right _ hpos
  rw [wrap_i64 (by omega) (by omega), wrap_u64 (n := (x : Int)) (by omega) (by omega)]
  have e1 : min (7 * (i : Int)).toNat IntKind.u64.bits = 7 * i := by
    have : IntKind.u64.bits = 64 := rfl
    omega
  rw [e1]
  have e2 : (x : Int) * 2 ^ (7 * i) = ((x * 128 ^ i : Nat) : Int) := by
    rw [p128]; simp
  rw [e2]
  exact wrap_u64 (by omega) (by omega)
theorem get_or {i u x : Nat} (hi : i ≤ 9) (hu : u < 128 ^ i) (h : x * 128 ^ i < 18446744073709551616) :
    IntKind.u64.wrap ((BitVec.ofInt IntKind.u64.bits (u : Int) ||| BitVec.ofInt IntKind.u64.bits ((x * 128 ^ i : Nat) : Int)).toNat : Int) = ((u + x * 128 ^ i : Nat) : Int) := by
  have h1 := p128_le hi
  rw [or64 (by omega) h]
  congr 1
  rw [Nat.add_comm, Nat.or_comm, p128, Nat.mul_comm]
  rw [p128] at hu
  exact (Nat.two_pow_add_eq_or_of_lt hu x).symm
theorem unzig_even {u : Nat} (h : u < 18446744073709551616) : IntKind.i64.wrap ((u : Int).fdiv (2 ^ min (1 : Int).toNat IntKind.u64.bits)) = ((u / 2 : Nat) : Int) := by
  have : (2 : Int) ^ min (1 : Int).toNat IntKind.u64.bits = 2 := by decide
  rw [this, Int.fdiv_eq_ediv_of_nonneg _ (by omega), wrap_i64 (by omega) (by omega)]
  omega
/-- reading a text -/
def getText (l : List UInt8) : ByteArray × Int × Int :=
  match get l with
  | (n, k, e) =>
    if e ≠ 0 then (txt [], 0, e) else if n < 0 ∨ 65536 < n then (txt [], 0, 1)
    else if (l.length : Int) - k < n then (txt [], 0, 2) else (txt ((l.take (k + n).toNat).drop k.toNat), k + n, 0)
theorem getL_k : ∀ (l : List UInt8) (i u : Nat), (getL i u l).2.2 = 0 → (i : Int) < (getL i u l).2.1 ∧ (getL i u l).2.1 ≤ (i : Int) + l.length := by
  intro l
  induction l with
  | nil => intro i u h; simp [getL] at h
  | cons c l ih =>
    intro i u
    rw [getL]
    split
    · intro h; simp at h
    · split
      · intro h
        have := ih _ _ h
        simp only [List.length_cons]
        omega
      · split
        · intro h; simp at h
        · intro _; simp only [List.length_cons]; omega
theorem get_k {l : List UInt8} (h : (get l).2.2 = 0) : 0 < (get l).2.1 ∧ (get l).2.1 ≤ l.length := by
  have := getL_k l 0 0 h
  unfold get
  omega
end Go.Pl
end

section
namespace Go.Pl
open Go Go.Sx

/-! ### the order of keys -/
theorem less_irrefl : ∀ l : List UInt8, Op.bytesLess l l = false
  | [] => rfl
  | a :: l => by
    have h : ¬ a < a := by have := UInt8.lt_irrefl a; exact this
    unfold Op.bytesLess
    rw [less_irrefl l]; simp [h]
theorem less_trans : ∀ {a b c : List UInt8}, Op.bytesLess a b = true → Op.bytesLess b c = true → Op.bytesLess a c = true
  | _, _, [], _, h => by unfold Op.bytesLess at h; cases h
  | _, [], _ :: _, h, _ => by unfold Op.bytesLess at h; cases h
  | [], _ :: _, _ :: _, _, _ => by unfold Op.bytesLess; rfl
  | x :: a, y :: b, z :: c, h1, h2 => by
    unfold Op.bytesLess at h1 h2 ⊢
    simp only [Bool.or_eq_true, Bool.and_eq_true, decide_eq_true_eq, beq_iff_eq] at h1 h2 ⊢
    rcases h1 with h1 | ⟨rfl, h1⟩
    · rcases h2 with h2 | ⟨rfl, h2⟩
      · exact .inl (UInt8.lt_trans h1 h2)
      · exact .inl h1
    · rcases h2 with h2 | ⟨rfl, h2⟩
      · exact .inl h2
      · exact .inr ⟨rfl, less_trans h1 h2⟩
theorem less_total : ∀ (a b : List UInt8), Op.bytesLess a b = true ∨ a = b ∨ Op.bytesLess b a = true
  | [], [] => .inr (.inl rfl)
  | [], _ :: _ => .inl (by unfold Op.bytesLess; rfl)
  | _ :: _, [] => .inr (.inr (by unfold Op.bytesLess; rfl))
  | x :: a, y :: b => by
    have h := less_total a b
    unfold Op.bytesLess
    simp only [Bool.or_eq_true, Bool.and_eq_true, decide_eq_true_eq, beq_iff_eq]
    rcases Nat.lt_trichotomy x.toNat y.toNat with hl | hl | hl
    · exact .inl (.inl hl)
    · have e : x = y := UInt8.toNat_inj.1 hl
      subst e
      rcases h with h | h | h
      · exact .inl (.inr ⟨rfl, h⟩)
      · exact .inr (.inl (by rw [h]))
      · exact .inr (.inr (.inr ⟨rfl, h⟩))
    · exact .inr (.inr (.inl hl))
/-- one key stands ahead of another one -/
def kLt (a b : ByteArray) : Bool := Op.bytesLess a.data.toList b.data.toList
theorem kLt_irrefl (a : ByteArray) : kLt a a = false := less_irrefl _
theorem kLt_trans {a b c : ByteArray} (h1 : kLt a b = true) (h2 : kLt b c = true) : kLt a c = true := less_trans h1 h2
theorem kLt_total (a b : ByteArray) : kLt a b = true ∨ a = b ∨ kLt b a = true := by
  rcases less_total a.data.toList b.data.toList with h | h | h
  · exact .inl h
  · refine .inr (.inl ?_)
    cases a; cases b; simp at h; simp [h]
  · exact .inr (.inr h)
theorem kLt_asymm {a b : ByteArray} (h : kLt a b = true) : kLt b a = false := by
  cases e : kLt b a with
  | false => rfl
  | true => have := kLt_trans h e; rw [kLt_irrefl] at this; cases this
theorem kLt_ne {a b : ByteArray} (h : kLt a b = true) : a ≠ b := by
  intro e; subst e; rw [kLt_irrefl] at h; cases h
theorem kLe_lt {a b c : ByteArray} (h1 : kLt b a = false) (h2 : kLt b c = true) : kLt a c = true := by
  rcases kLt_total a b with h | h | h
  · exact kLt_trans h h2
  · subst h; exact h2
  · rw [h] at h1; cases h1
theorem kLt_le {a b c : ByteArray} (h1 : kLt a b = true) (h2 : kLt c b = false) : kLt a c = true := by
  rcases kLt_total b c with h | h | h
  · exact kLt_trans h1 h
  · subst h; exact h1
  · rw [h] at h2; cases h2
theorem kLt_nil (a : ByteArray) : kLt a ⟨#[]⟩ = false := by
  unfold kLt
  cases a.data.toList <;> rfl

/-! ### floats, by their bits -/
theorem nanN_bits (u : Nat) : nanN u = (decide (u / 2 ^ 52 % 2 ^ 11 = 2047) && decide (u % 2 ^ 52 ≠ 0)) := by
  unfold nanN
  rw [Bool.eq_iff_iff, Bool.and_eq_true, decide_eq_true_eq, decide_eq_true_eq, decide_eq_true_eq]
  omega
def cleanN (u : Nat) : Nat := if nanN u then 0x7ff8000000000000 else u
/-- a number whose order is the floats' -/
def placeN (u : Nat) : Nat := if nanN u then 0 else if 2 ^ 63 ≤ u then 2 ^ 64 - 1 - u else u + 2 ^ 63
def floatBytes (u : Nat) : List UInt8 := (List.range 8).map fun i => UInt8.ofNat (placeN u / 256 ^ (7 - i) % 256)
theorem floatBytes_len (u : Nat) : (floatBytes u).length = 8 := by unfold floatBytes; simp

theorem of64 {u : Nat} (h : u < 2 ^ 64) : (BitVec.ofInt 64 (u : Int)).toNat = u := by rw [BitVec.toNat_ofInt]; omega
theorem bit63 {u : Nat} (h : u < 2 ^ 64) : u &&& 2 ^ 63 = if 2 ^ 63 ≤ u then 2 ^ 63 else 0 := by
  apply Nat.eq_of_testBit_eq
  intro i
  rw [Nat.testBit_and, Nat.testBit_two_pow]
  by_cases e : 63 = i
  · subst e
    rw [Nat.testBit_eq_decide_div_mod_eq]
    split
    · rw [decide_eq_true (by omega), Nat.testBit_two_pow]; rfl
    · rw [decide_eq_false (by omega)]; simp
  · rw [decide_eq_false e, Bool.and_false]
    split
    · rw [Nat.testBit_two_pow, decide_eq_false e]
    · simp
theorem and63 {u : Nat} (h : u < 2 ^ 64) : IntKind.u64.wrap ((BitVec.ofInt IntKind.u64.bits (u : Int) &&& BitVec.ofInt IntKind.u64.bits 9223372036854775808).toNat : Int) = if 2 ^ 63 ≤ u then 9223372036854775808 else 0 := by
  show IntKind.u64.wrap (((BitVec.ofInt 64 (u : Int) &&& BitVec.ofInt 64 9223372036854775808).toNat : Nat) : Int) = _
  rw [BitVec.toNat_and, of64 h, show (BitVec.ofInt 64 9223372036854775808).toNat = 2 ^ 63 by decide, bit63 h]
  split
  · rfl
  · rfl
theorem or63 {u : Nat} (h : u < 2 ^ 63) : IntKind.u64.wrap ((BitVec.ofInt IntKind.u64.bits (u : Int) ||| BitVec.ofInt IntKind.u64.bits 9223372036854775808).toNat : Int) = ((u + 2 ^ 63 : Nat) : Int) := by
  show IntKind.u64.wrap (((BitVec.ofInt 64 (u : Int) ||| BitVec.ofInt 64 9223372036854775808).toNat : Nat) : Int) = _
  rw [BitVec.toNat_or, of64 (by omega), show (BitVec.ofInt 64 9223372036854775808).toNat = 2 ^ 63 by decide, Nat.or_comm]
  have := Nat.two_pow_add_eq_or_of_lt h 1
  rw [Nat.mul_one] at this
  rw [← this, IntKind.wrap_u64]
  omega
theorem clear63 {u : Nat} (h : u < 2 ^ 64) : IntKind.u64.wrap ((BitVec.ofInt IntKind.u64.bits (u : Int) &&& ~~~ BitVec.ofInt IntKind.u64.bits 9223372036854775808).toNat : Int) = ((u % 2 ^ 63 : Nat) : Int) := by
  show IntKind.u64.wrap (((BitVec.ofInt 64 (u : Int) &&& ~~~ BitVec.ofInt 64 9223372036854775808).toNat : Nat) : Int) = _
  rw [BitVec.toNat_and, of64 h, show (~~~ BitVec.ofInt 64 9223372036854775808 : BitVec 64).toNat = 2 ^ 63 - 1 by decide, Nat.and_two_pow_sub_one_eq_mod, IntKind.wrap_u64]
  omega

def beTo (p i : Nat) : List UInt8 := (List.range i).map fun i => UInt8.ofNat (p / 256 ^ (7 - i) % 256)
theorem beTo_succ (p i : Nat) : beTo p (i + 1) = beTo p i ++ [UInt8.ofNat (p / 256 ^ (7 - i) % 256)] := by unfold beTo; rw [List.range_succ, List.map_append]; rfl
theorem beTo_len (p i : Nat) : (beTo p i).length = i := by unfold beTo; simp
theorem byte_at {p i : Nat} (h : i < 8) : IntKind.u8.wrap ((p : Int).fdiv (2 ^ min (((8 * (7 - i) : Nat) : Int)).toNat IntKind.u64.bits)) = ((UInt8.ofNat (p / 256 ^ (7 - i) % 256)).toNat : Int) := by
  have e : ∀ j : Fin 8, (2 : Int) ^ min (((8 * (7 - j.val) : Nat) : Int)).toNat IntKind.u64.bits = ((256 ^ (7 - j.val) : Nat) : Int) := by decide
  have := e ⟨i, h⟩
  dsimp only at this
  rw [this, Int.fdiv_eq_ediv_of_nonneg _ (Int.natCast_nonneg _), ← Int.natCast_ediv, UInt8.toNat_ofNat']
  generalize p / 256 ^ (7 - i) = q
  rw [IntKind.wrap_u8]; omega

/-! ### values -/
structure Vl where
  kind : Int
  f : Nat
  s : ByteArray
deriving DecidableEq
def encVl (v : Vl) : List Value := [.int .i64 v.kind, .float .f64 v.f, .string v.s]
def noVl : Vl := ⟨0, 0, ⟨#[]⟩⟩
def mayVl (v : Vl) : Bool :=
  if v.kind = 0 then decide (v.f = 0) && decide (v.s = ⟨#[]⟩)
  else if v.kind = 1 then decide (v.s = ⟨#[]⟩) && decide (v.f = cleanN v.f)
  else if v.kind = 2 then decide (v.f = 0) && decide (v.s.size ≤ 20)
  else false
def eqVl (a b : Vl) : Bool := decide (a.kind = b.kind) && decide (a.s = b.s) && decide (placeN a.f = placeN b.f)
def vlBytes (v : Vl) : List UInt8 := put v.kind ++ if v.kind = 1 then floatBytes v.f else if v.kind = 2 then putText v.s else []

/-! ### cells -/
structure Cell where
  key : ByteArray
  val : Vl
  txn : Int
  new : Vl
deriving DecidableEq
def encCell (c : Cell) : List Value := .string c.key :: (encVl c.val ++ .int .i64 c.txn :: encVl c.new)
def noCell : Cell := ⟨⟨#[]⟩, noVl, 0, noVl⟩
def mayKey (s : ByteArray) : Bool := decide (s ≠ ⟨#[]⟩) && decide (s.size ≤ 16)
def mayCell (c : Cell) : Bool :=
  mayKey c.key && mayVl c.val && mayVl c.new && decide (0 ≤ c.txn) && decide (c.txn ≤ 1099511627776) &&
    (decide (0 < c.txn) || decide (c.new.kind = 0) && !decide (c.val.kind = 0))
def cellBytes (c : Cell) : List UInt8 := putText c.key ++ vlBytes c.val ++ put c.txn ++ if 0 < c.txn then vlBytes c.new else []
theorem put_len1 {n : Int} (h0 : 0 ≤ n) (h1 : n < 64) : (put n).length = 1 := by
  unfold put
  have hz : zig n < 128 := by unfold zig; rw [if_neg (by omega)]; omega
  rw [putU_small hz]; rfl
theorem putText_len {s : ByteArray} (h : s.size < 64) : (putText s).length = s.size + 1 := by
  unfold putText
  rw [List.length_append, put_len1 (by omega) (by omega)]
  have e : s.data.toList.length = s.size := Array.length_toList
  omega
theorem vlBytes_len {v : Vl} (h : mayVl v = true) : (vlBytes v).length ≤ 22 := by
  unfold mayVl at h
  unfold vlBytes
  rw [List.length_append]
  split at h
  · rename_i h0
    rw [h0, put_len1 (by omega) (by omega)]; simp
  · split at h
    · rename_i h1
      rw [if_pos h1, h1, put_len1 (by omega) (by omega), floatBytes_len]; omega
    · split at h
      · rename_i h2 h3
        rw [Bool.and_eq_true, decide_eq_true_eq, decide_eq_true_eq] at h
        rw [if_neg h2, if_pos h3, h3, put_len1 (by omega) (by omega), putText_len (by omega)]; omega
      · cases h
end Go.Pl
end

section
namespace Go.Pl
open Go Go.Sx

theorem putU_len : ∀ (k u : Nat), u < 128 ^ (k + 1) → (putU u).length ≤ k + 1 := by
  intro k
  induction k with
  | zero => intro u h; rw [putU_small (by omega)]; simp
  | succ k ih =>
    intro u h
    by_cases hs : u < 128
    · rw [putU_small hs]; simp
    · rw [putU_big (by omega), List.length_cons]
      have := ih (u / 128) (by rw [Nat.pow_succ] at h; omega)
      omega
theorem put_txn {n : Int} (h0 : 0 ≤ n) (h1 : n ≤ 1099511627776) : (put n).length ≤ 6 := by
  unfold put
  exact putU_len 5 _ (by unfold zig; rw [if_neg (by omega)]; omega)
theorem cellBytes_len {c : Cell} (h : mayCell c = true) : (cellBytes c).length ≤ 67 := by
  unfold mayCell at h
  simp only [Bool.and_eq_true, decide_eq_true_eq] at h
  obtain ⟨⟨⟨⟨⟨h1, h2⟩, h3⟩, h4⟩, h5⟩, _⟩ := h
  unfold mayKey at h1
  rw [Bool.and_eq_true, decide_eq_true_eq, decide_eq_true_eq] at h1
  unfold cellBytes
  have a1 := putText_len (s := c.key) (by omega)
  have a2 := vlBytes_len h2
  have a3 := put_txn h4 h5
  have a4 : (if 0 < c.txn then vlBytes c.new else []).length ≤ 22 := by
    split
    · exact vlBytes_len h3
    · simp
  simp only [List.length_append]
  omega

structure Nd where
  leaf : Bool
  cells : List Cell
  keys : List ByteArray
  kids : List Int
deriving DecidableEq
def noNd : Nd := ⟨false, [], [], []⟩
def rising (l : List ByteArray) : Prop := l.Pairwise fun a b => kLt a b = true
/-- the node may be -/
def MayNd (n : Nd) : Prop :=
  if n.leaf = true then n.keys = [] ∧ n.kids = [] ∧ (∀ c ∈ n.cells, mayCell c = true) ∧ rising (n.cells.map Cell.key)
  else n.cells = [] ∧ (∀ k ∈ n.keys, mayKey k = true) ∧ rising n.keys ∧ (∀ x ∈ n.kids, 2 ≤ x ∧ x < 32) ∧ 1 ≤ n.kids.length ∧ n.kids.length ≤ 32 ∧ n.keys.length + 1 = n.kids.length
noncomputable instance (n : Nd) : Decidable (MayNd n) := Classical.propDecidable _
def ndBytes (n : Nd) : List UInt8 :=
  if n.leaf = true then 1 :: (put n.cells.length ++ n.cells.flatMap cellBytes)
  else 2 :: (put n.kids.length ++ n.kids.flatMap put ++ n.keys.flatMap putText)
noncomputable def ndSize (n : Nd) : Nat := if MayNd n then (ndBytes n).length else 0
noncomputable def encNd (n : Nd) : List UInt8 × Int := if MayNd n then if 256 < (ndBytes n).length then ([], 4) else (ndBytes n ++ List.replicate (256 - (ndBytes n).length) 0, 0) else ([], 1)
def Fits (n : Nd) : Prop := MayNd n ∧ (ndBytes n).length ≤ 256
noncomputable instance (n : Nd) : Decidable (Fits n) := Classical.propDecidable _
theorem enc_fits {n : Nd} : (encNd n).2 = 0 ↔ Fits n := by
  unfold encNd Fits
  by_cases h : MayNd n
  · rw [if_pos h]
    split
    · constructor
      · intro h; cases h
      · intro h; omega
    · constructor
      · intro _; exact ⟨h, by omega⟩
      · intro _; rfl
  · rw [if_neg h]
    constructor
    · intro h; cases h
    · intro h'; exact absurd h'.1 h
theorem enc_len {n : Nd} (h : Fits n) : (encNd n).1.length = 256 := by
  unfold encNd
  rw [if_pos h.1, if_neg (by have := h.2; omega), List.length_append, List.length_replicate]
  have := h.2; omega
end Go.Pl
end

section
namespace Go.Pl
open Go Go.Sx
theorem unzig_zig (n : Int) : unzig (zig n) = n := by
  unfold unzig zig
  split <;> split <;> omega
theorem getL_putU : ∀ (k i u base : Nat) (rest : List UInt8), i + k = 9 → u < 2 * 128 ^ k → (i = 0 ∨ 0 < u) →
    getL i base (putU u ++ rest) = (unzig (base + u * 128 ^ i), ((i + (putU u).length : Nat) : Int), 0) := by
  intro k
  induction k with
  | zero =>
    intro i u base rest hi hu h0
    have hu2 : u < 2 := by simpa using hu
    rw [putU_small (by omega)]
    have hc : (UInt8.ofNat u).toNat = u := by rw [UInt8.toNat_ofNat']; omega
    show getL i base (UInt8.ofNat u :: rest) = _
    rw [getL, hc, if_neg (by omega), if_neg (by omega), if_neg (by omega), show u % 128 = u by omega]
    rfl
  | succ k ih =>
    intro i u base rest hi hu h0
    by_cases hb : u < 128
    · rw [putU_small hb]
      have hc : (UInt8.ofNat u).toNat = u := by rw [UInt8.toNat_ofNat']; omega
      show getL i base (UInt8.ofNat u :: rest) = _
      rw [getL, hc, if_neg (by omega), if_neg (by omega), if_neg (by omega), show u % 128 = u by omega]
      rfl
    · rw [putU_big hb]
      have hc : (UInt8.ofNat (u % 128 + 128)).toNat = u % 128 + 128 := by rw [UInt8.toNat_ofNat']; omega
      show getL i base (UInt8.ofNat (u % 128 + 128) :: (putU (u / 128) ++ rest)) = _
      rw [getL, hc, if_neg (by omega), if_pos (by omega)]
      rw [ih (i + 1) (u / 128) _ rest (by omega) (by rw [Nat.pow_succ] at hu; omega) (by omega)]
      have e1 : (u % 128 + 128) % 128 = u % 128 := by omega
      rw [e1, Nat.pow_succ]
      have e2 : base + u % 128 * 128 ^ i + u / 128 * (128 ^ i * 128) = base + u * 128 ^ i := by
        have : u * 128 ^ i = u % 128 * 128 ^ i + u / 128 * (128 ^ i * 128) := by
          conv => lhs; rw [← Nat.mod_add_div u 128]
          rw [Nat.add_mul, Nat.mul_comm 128 (u / 128), Nat.mul_assoc, Nat.mul_comm 128 (128 ^ i)]
        omega
      rw [e2]
      simp only [List.length_cons]
      congr 2
      omega
theorem get_put {n : Int} (h1 : -9223372036854775808 ≤ n) (h2 : n ≤ 9223372036854775807) (rest : List UInt8) : get (put n ++ rest) = (n, ((put n).length : Int), 0) := by
  unfold get put
  rw [getL_putU 9 0 (zig n) 0 rest rfl (Nat.lt_of_lt_of_le (zig_lt h1 h2) (by decide)) (.inl rfl)]
  simp [unzig_zig]
theorem putText_length (s : ByteArray) : (putText s).length = (put s.size).length + s.size := by
  unfold putText; rw [List.length_append]; congr 1
theorem getText_put {s : ByteArray} (h : s.size ≤ 65536) (rest : List UInt8) : getText (putText s ++ rest) = (s, ((putText s).length : Int), 0) := by
  have hsz : s.data.toList.length = s.size := Array.length_toList
  have hlen := putText_length s
  unfold getText
  have e : putText s ++ rest = put s.size ++ (s.data.toList ++ rest) := by unfold putText; rw [List.append_assoc]
  rw [e, get_put (by omega) (by omega)]
  dsimp only
  rw [if_neg (by omega), if_neg (by omega), if_neg (by simp only [List.length_append]; omega)]
  have e2 : ((put s.size).length + (s.size : Int)).toNat = (put s.size).length + s.size := by omega
  have e3 : (((put s.size).length : Int)).toNat = (put s.size).length := by omega
  rw [e2, e3]
  have e4 : ((put s.size ++ (s.data.toList ++ rest)).take ((put s.size).length + s.size)).drop (put s.size).length = s.data.toList := by
    rw [List.take_length_add_append, List.drop_left, ← hsz, List.take_left]
  rw [e4, hlen]
  congr 2
end Go.Pl
end

section
namespace Go.Pl
open Go Go.Sx

/-- eight bytes as a number -/
def beN (l : List UInt8) : Nat := l.foldl (fun u c => u * 256 + c.toNat) 0
def floatGet (l : List UInt8) : Option Nat :=
  let u := beN l
  let f := if u = 0 then 0x7ff8000000000000 else if u < 2 ^ 63 then 2 ^ 64 - 1 - u else u - 2 ^ 63
  if placeN f = u then some f else none
def vlGet (l : List UInt8) : Vl × Int × Int :=
  match get l with
  | (k, at_, e) =>
    if e ≠ 0 then (noVl, 0, e)
    else
      match (if k = 0 then some (noVl, (0 : Int), (0 : Int))
        else if k = 1 then (if (l.length : Int) - at_ < 8 then some (noVl, 0, 2) else match floatGet ((l.drop at_.toNat).take 8) with
          | none => some (noVl, 0, 1)
          | some f => some (⟨1, f, ⟨#[]⟩⟩, 8, 0))
        else if k = 2 then (match getText (l.drop at_.toNat) with | (s, n, e) => some (⟨2, 0, s⟩, n, e))
        else none) with
      | none => (noVl, 0, 1)
      | some (v, n, e) => if e ≠ 0 then (noVl, 0, e) else if mayVl v = true then (v, at_ + n, 0) else (noVl, 0, 1)
theorem beN_append (l : List UInt8) (c : UInt8) : beN (l ++ [c]) = beN l * 256 + c.toNat := by unfold beN; rw [List.foldl_append]; rfl
theorem placeN_lt {u : Nat} (h : u < 2 ^ 64) : placeN u < 2 ^ 64 := by
  unfold placeN
  split
  · decide
  · split <;> omega
theorem beN_bytes (p : Nat) (hp : p < 2 ^ 64) : beN ((List.range 8).map fun i => UInt8.ofNat (p / 256 ^ (7 - i) % 256)) = p := by
  have e : (List.range 8).map (fun i => UInt8.ofNat (p / 256 ^ (7 - i) % 256)) = [UInt8.ofNat (p / 256 ^ 7 % 256), UInt8.ofNat (p / 256 ^ 6 % 256), UInt8.ofNat (p / 256 ^ 5 % 256), UInt8.ofNat (p / 256 ^ 4 % 256), UInt8.ofNat (p / 256 ^ 3 % 256), UInt8.ofNat (p / 256 ^ 2 % 256), UInt8.ofNat (p / 256 ^ 1 % 256), UInt8.ofNat (p / 256 ^ 0 % 256)] := rfl
  have d : ∀ k, p / 256 ^ (k + 1) = p / 256 ^ k / 256 := fun k => by rw [Nat.pow_succ, Nat.div_div_eq_div_mul]
  have a1 : p = p / 256 ^ 1 * 256 + p % 256 := by rw [Nat.pow_one]; omega
  have d2 := d 1; have d3 := d 2; have d4 := d 3; have d5 := d 4; have d6 := d 5; have d7 := d 6
  have d0 : p / 256 ^ 0 = p := by simp
  have hb : p / 256 ^ 7 < 256 := by rw [Nat.div_lt_iff_lt_mul (by decide)]; exact Nat.lt_of_lt_of_le hp (by decide)
  rw [e]
  unfold beN
  simp only [List.foldl_cons, List.foldl_nil, UInt8.toNat_ofNat', Nat.reduceAdd, Nat.zero_add] at d2 d3 d4 d5 d6 d7 ⊢
  rw [d0]
  generalize p / 256 ^ 7 = q7 at *
  generalize p / 256 ^ 6 = q6 at *
  generalize p / 256 ^ 5 = q5 at *
  generalize p / 256 ^ 4 = q4 at *
  generalize p / 256 ^ 3 = q3 at *
  generalize p / 256 ^ 2 = q2 at *
  generalize p / 256 ^ 1 = q1 at *
  simp only [Nat.zero_mul, Nat.zero_add, Nat.reducePow, Nat.mod_mod]
  clear e d hp
  have m : ∀ q r : Nat, q = r / 256 → r = q * 256 + r % 256 := fun q r h => by omega
  have a2 := m _ _ d2; have a3 := m _ _ d3; have a4 := m _ _ d4; have a5 := m _ _ d5; have a6 := m _ _ d6; have a7 := m _ _ d7
  have a8 : q7 % 256 = q7 := Nat.mod_eq_of_lt hb
  rw [a8, ← a7, ← a6, ← a5, ← a4, ← a3, ← a2, ← a1]
theorem placeN_nan {u : Nat} (h : nanN u = true) : placeN u = 0 := by unfold placeN; rw [if_pos h]
theorem floatGet_bytes {f : Nat} (h : f < 2 ^ 64) (hc : f = cleanN f) : floatGet (floatBytes f) = some f := by
  unfold floatGet floatBytes
  rw [beN_bytes _ (placeN_lt h)]
  dsimp only
  have key : (if placeN f = 0 then 0x7ff8000000000000 else if placeN f < 2 ^ 63 then 2 ^ 64 - 1 - placeN f else placeN f - 2 ^ 63) = f := by
    by_cases hn : nanN f = true
    · rw [placeN_nan hn, if_pos rfl]
      unfold cleanN at hc; rw [if_pos hn] at hc; exact hc.symm
    · have e : placeN f = if 2 ^ 63 ≤ f then 2 ^ 64 - 1 - f else f + 2 ^ 63 := by unfold placeN; rw [if_neg hn]
      have hmax : f ≠ 2 ^ 64 - 1 := by
        intro h1; subst h1; exact hn (by decide)
      rw [e]
      split
      · rw [if_neg (by omega), if_pos (by omega)]; omega
      · rw [if_neg (by omega), if_neg (by omega)]; omega
  rw [key, if_pos rfl]
theorem vlGet_bytes {v : Vl} (h : mayVl v = true) (hf : v.f < 2 ^ 64) (rest : List UInt8) : vlGet (vlBytes v ++ rest) = (v, ((vlBytes v).length : Int), 0) := by
  obtain ⟨k, f, s⟩ := v
  have hm := h
  unfold mayVl at h
  dsimp only at h hf
  have hk : k = 0 ∨ k = 1 ∨ k = 2 := by
    split at h
    · omega
    · split at h
      · omega
      · split at h
        · omega
        · cases h
  have hg : ∀ r, get (put k ++ r) = (k, 1, 0) := fun r => by rw [get_put (by omega) (by omega), put_len1 (by omega) (by omega)]; rfl
  have hp1 := put_len1 (n := k) (by omega) (by omega)
  have hd : ∀ r : List UInt8, (put k ++ r).drop (1 : Int).toNat = r := fun r => by rw [show (1 : Int).toNat = (put k).length by rw [hp1]; rfl, List.drop_left]
  unfold vlGet vlBytes
  dsimp only
  rw [List.append_assoc, hg]
  dsimp only
  rw [if_neg (by simp)]
  rcases hk with rfl | rfl | rfl
  · rw [if_pos rfl, Bool.and_eq_true, decide_eq_true_eq, decide_eq_true_eq] at h
    obtain ⟨rfl, rfl⟩ := h
    rw [if_pos rfl]
    dsimp only
    rw [if_neg (by simp), if_pos (show mayVl noVl = true by decide +kernel), if_neg (show ¬ (0 : Int) = 1 by decide), if_neg (show ¬ (0 : Int) = 2 by decide), List.length_append, hp1]
    rfl
  · rw [if_neg (by decide), if_pos rfl, Bool.and_eq_true, decide_eq_true_eq, decide_eq_true_eq] at h
    obtain ⟨rfl, hc⟩ := h
    rw [if_neg (by decide), if_pos rfl, if_pos rfl, if_neg (by simp only [List.length_append, hp1, floatBytes_len]; omega), hd,
      List.take_left' (floatBytes_len f), floatGet_bytes hf hc]
    dsimp only
    rw [if_neg (by simp), if_pos hm, List.length_append, hp1, floatBytes_len]
    rfl
  · rw [if_neg (by decide), if_neg (by decide), if_pos rfl, Bool.and_eq_true, decide_eq_true_eq, decide_eq_true_eq] at h
    obtain ⟨rfl, hs⟩ := h
    rw [if_neg (by decide), if_neg (by decide), if_pos rfl, if_neg (by decide), if_pos rfl, hd, getText_put (by omega)]
    dsimp only
    rw [if_neg (by simp), if_pos hm, List.length_append, hp1]
    simp
theorem beN_from : ∀ (l : List UInt8) (a : Nat), l.foldl (fun u c => u * 256 + c.toNat) a < (a + 1) * 256 ^ l.length := by
  intro l
  induction l with
  | nil => intro a; simp
  | cons c l ih =>
    intro a
    rw [List.foldl_cons, List.length_cons, Nat.pow_succ]
    have hc := c.toNat_lt
    refine Nat.lt_of_lt_of_le (ih _) ?_
    rw [Nat.mul_comm (256 ^ l.length) 256, ← Nat.mul_assoc]
    exact Nat.mul_le_mul_right _ (by omega)
theorem beN_lt (l : List UInt8) : beN l < 256 ^ l.length := by have := beN_from l 0; rw [Nat.zero_add, Nat.one_mul] at this; exact this
theorem shl8 {u : Nat} (h : u < 256 ^ 7) : IntKind.u64.wrap ((u : Int) * 2 ^ min (8 : Int).toNat IntKind.u64.bits) = ((u * 256 : Nat) : Int) := by
  have : (2 : Int) ^ min (8 : Int).toNat IntKind.u64.bits = 256 := by decide
  rw [this, IntKind.wrap_u64]
  have : u < 72057594037927936 := h
  omega
theorem or_byte {u : Nat} {c : UInt8} (h : u < 256 ^ 7) : IntKind.u64.wrap ((BitVec.ofInt IntKind.u64.bits ((u * 256 : Nat) : Int) ||| BitVec.ofInt IntKind.u64.bits (c.toNat : Int)).toNat : Int) = ((u * 256 + c.toNat : Nat) : Int) := by
  show IntKind.u64.wrap (((BitVec.ofInt 64 ((u * 256 : Nat) : Int) ||| BitVec.ofInt 64 (c.toNat : Int)).toNat : Nat) : Int) = _
  have hu : u < 72057594037927936 := h
  have hc := c.toNat_lt
  rw [BitVec.toNat_or, of64 (by omega), of64 (by omega)]
  have := Nat.two_pow_add_eq_or_of_lt (i := 8) (show c.toNat < 2 ^ 8 from hc) u
  rw [show u * 256 = 2 ^ 8 * u by omega, ← this, IntKind.wrap_u64]
  omega
/-- what float.Of tells -/
def ofF (l : List UInt8) : Nat × Bool := if l.length ≠ 8 then (0, false) else match floatGet l with | some f => (f, true) | none => (0, false)
/-- reading a cell -/
def cellGet (l : List UInt8) : Cell × Int × Int :=
  match getText l with
  | (k, at_, e) =>
    if e ≠ 0 then (noCell, 0, e)
    else match vlGet (l.drop at_.toNat) with
      | (v, n, e) =>
        if e ≠ 0 then (noCell, 0, e)
        else match get (l.drop (at_ + n).toNat) with
          | (t, n2, e) =>
            if e ≠ 0 then (noCell, 0, e)
            else
              match (if 0 < t then vlGet (l.drop (at_ + n + n2).toNat) else (noVl, 0, 0)) with
              | (w, n3, e) =>
                if e ≠ 0 then (noCell, 0, e)
                else if mayCell ⟨k, v, t, w⟩ = true then (⟨k, v, t, w⟩, at_ + n + n2 + n3, 0) else (noCell, 0, 1)
theorem cellGet_bytes {c : Cell} (h : mayCell c = true) (h1 : c.val.f < 2 ^ 64) (h2 : c.new.f < 2 ^ 64) (rest : List UInt8) : cellGet (cellBytes c ++ rest) = (c, ((cellBytes c).length : Int), 0) := by
  obtain ⟨k, v, t, w⟩ := c
  have hm := h
  unfold mayCell at h
  simp only [Bool.and_eq_true, decide_eq_true_eq] at h
  obtain ⟨⟨⟨⟨⟨a1, a2⟩, a3⟩, a4⟩, a5⟩, a6⟩ := h
  unfold mayKey at a1
  rw [Bool.and_eq_true, decide_eq_true_eq, decide_eq_true_eq] at a1
  dsimp only at h1 h2 a1 a2 a3 a4 a5 a6
  unfold cellGet cellBytes
  dsimp only
  have e1 : putText k ++ vlBytes v ++ put t ++ (if 0 < t then vlBytes w else []) ++ rest = putText k ++ (vlBytes v ++ (put t ++ ((if 0 < t then vlBytes w else []) ++ rest))) := by simp only [List.append_assoc]
  rw [e1, getText_put (by omega)]
  dsimp only
  have d1 : ∀ r : List UInt8, (putText k ++ r).drop ((putText k).length : Int).toNat = r := fun r => by rw [Int.toNat_natCast, List.drop_left]
  rw [if_neg (by simp), d1, vlGet_bytes a2 h1]
  dsimp only
  have d2 : ∀ r : List UInt8, (putText k ++ (vlBytes v ++ r)).drop (((putText k).length : Int) + ((vlBytes v).length : Int)).toNat = r := fun r => by
    rw [← List.append_assoc, show (((putText k).length : Int) + ((vlBytes v).length : Int)).toNat = (putText k ++ vlBytes v).length by rw [List.length_append]; omega, List.drop_left]
  rw [if_neg (by simp), d2, get_put (by omega) (by omega)]
  dsimp only
  have d3 : ∀ r : List UInt8, (putText k ++ (vlBytes v ++ (put t ++ r))).drop (((putText k).length : Int) + ((vlBytes v).length : Int) + ((put t).length : Int)).toNat = r := fun r => by
    rw [← List.append_assoc, ← List.append_assoc, show (((putText k).length : Int) + ((vlBytes v).length : Int) + ((put t).length : Int)).toNat = (putText k ++ vlBytes v ++ put t).length by simp only [List.length_append]; omega, List.drop_left]
  rw [if_neg (by simp)]
  by_cases ht : 0 < t
  · rw [if_pos ht, if_pos ht, d3, vlGet_bytes a3 h2]
    dsimp only
    rw [if_neg (by simp), if_pos hm]
    simp only [List.length_append]
    congr 2
  · have hw : w = noVl := by
      have hk : w.kind = 0 := by
        simp only [Bool.or_eq_true, Bool.and_eq_true, decide_eq_true_eq] at a6
        rcases a6 with a6 | a6
        · exact absurd a6 ht
        · exact a6.1
      unfold mayVl at a3
      rw [if_pos hk, Bool.and_eq_true, decide_eq_true_eq, decide_eq_true_eq] at a3
      obtain ⟨wk, wf, ws⟩ := w
      dsimp only at hk a3
      rw [hk, a3.1, a3.2]; rfl
    subst hw
    rw [if_neg ht, if_neg ht]
    dsimp only
    rw [if_neg (by simp), if_pos hm]
    simp only [List.length_append, List.length_nil]
    congr 2
end Go.Pl
end

section
namespace Go.Pl
open Go Go.Sx

structure Snap where
  name : ByteArray
  id : Int
  inv : Bool
  map : List Int
/-! ### May: the program's, the document's -/
end Go.Pl
end

section
namespace Go.Pl
open Go Go.Sx

def page (l : List UInt8) : List UInt8 := l ++ List.replicate (256 - l.length) 0
def whole (l : List UInt8) : List UInt8 := if 256 < l.length then [] else page l

/-! ### the same? -/
end Go.Pl
end

section
namespace Go.Pl
open Go Go.Sx

theorem getText_k {l : List UInt8} (h : (getText l).2.2 = 0) : 0 < (getText l).2.1 ∧ (getText l).2.1 ≤ l.length := by
  have hk := @get_k l
  unfold getText at h ⊢
  generalize get l = p at *
  obtain ⟨n, k, e⟩ := p
  dsimp only at *
  by_cases h1 : e ≠ 0
  · rw [if_pos h1] at h
    exact (h1 h).elim
  · rw [if_neg h1] at h ⊢
    have hk := hk (by omega)
    by_cases h2 : n < 0 ∨ 65536 < n
    · rw [if_pos h2] at h; simp at h
    · rw [if_neg h2] at h ⊢
      by_cases h3 : (l.length : Int) - k < n
      · rw [if_pos h3] at h; simp at h
      · rw [if_neg h3]
        dsimp only
        omega
end Go.Pl
end

section
namespace Go.Pl
open Go Go.Sx

theorem vlGet_bad {l : List UInt8} {k a e : Int} (h : get l = (k, a, e)) (he : e ≠ 0) : vlGet l = (noVl, 0, e) := by
  unfold vlGet; rw [h]; dsimp only; rw [if_pos he]
theorem vlGet_kind {l : List UInt8} {k a : Int} (h : get l = (k, a, 0)) (h0 : k ≠ 0) (h1 : k ≠ 1) (h2 : k ≠ 2) : vlGet l = (noVl, 0, 1) := by
  unfold vlGet; rw [h]; dsimp only; rw [if_neg (by simp), if_neg h0, if_neg h1, if_neg h2]
theorem vlGet_none {l : List UInt8} {a : Int} (h : get l = (0, a, 0)) : vlGet l = (noVl, a + 0, 0) := by
  unfold vlGet; rw [h]; dsimp only; rw [if_neg (by simp), if_pos rfl]; dsimp only; rw [if_neg (by simp), if_pos (show mayVl noVl = true by decide +kernel)]
theorem vlGet_short {l : List UInt8} {a : Int} (h : get l = (1, a, 0)) (hs : (l.length : Int) - a < 8) : vlGet l = (noVl, 0, 2) := by
  unfold vlGet; rw [h]; dsimp only; rw [if_neg (by simp), if_neg (by decide), if_pos rfl, if_pos hs]; dsimp only; rw [if_pos (by decide)]
theorem vlGet_float {l : List UInt8} {a : Nat} (h : get l = (1, (a : Int), 0)) (hs : ¬ (l.length : Int) - a < 8) : vlGet l = if (ofF ((l.drop a).take 8)).2 = true then if mayVl ⟨1, (ofF ((l.drop a).take 8)).1, ⟨#[]⟩⟩ = true then (⟨1, (ofF ((l.drop a).take 8)).1, ⟨#[]⟩⟩, (a : Int) + 8, 0) else (noVl, 0, 1) else (noVl, 0, 1) := by
  have hl : ((l.drop a).take 8).length = 8 := by rw [List.length_take, List.length_drop]; omega
  have e8 : ¬ ((l.drop a).take 8).length ≠ 8 := by omega
  unfold vlGet ofF
  rw [h]
  dsimp only
  rw [if_neg (by simp), if_neg (show ¬ (1 : Int) = 0 by decide), if_pos rfl, if_neg hs, Int.toNat_natCast, if_neg e8]
  cases floatGet ((l.drop a).take 8) with
  | none => simp
  | some f => simp
theorem vlGet_text {l : List UInt8} {a : Nat} {s : ByteArray} {n e : Int} (h : get l = (2, (a : Int), 0)) (ht : getText (l.drop a) = (s, n, e)) : vlGet l = if e ≠ 0 then (noVl, 0, e) else if mayVl ⟨2, 0, s⟩ = true then (⟨2, 0, s⟩, (a : Int) + n, 0) else (noVl, 0, 1) := by
  unfold vlGet
  rw [h]
  dsimp only
  rw [if_neg (by simp), if_neg (by decide), if_neg (by decide), if_pos rfl, Int.toNat_natCast, ht]
end Go.Pl
end

section
namespace Go.Pl
open Go Go.Sx

theorem kGt (a x : ByteArray) : (!(kLt x a || decide (x = a))) = kLt a x := by
  rcases kLt_total a x with h | h | h
  · rw [h, kLt_asymm h, decide_eq_false (fun e => kLt_ne h e.symm)]; rfl
  · subst h; rw [kLt_irrefl, decide_eq_true rfl]; rfl
  · rw [h, kLt_asymm h]; rfl
/-- is a key between two? -/
def keyIn (s from_ to : ByteArray) : Bool := !kLt s from_ && (decide (to = ⟨#[]⟩) || kLt s to)
/-- the shortest text between two -/
def keyMid (a b : ByteArray) : ByteArray := match (List.range (b.size + 1)).find? (fun i => kLt a (b.extract 0 i)) with | some i => b.extract 0 i | none => ⟨#[]⟩
theorem mid_at {a b : ByteArray} {i : Nat} (hi : i ≤ b.size) (hb : ∀ j, j < i → kLt a (b.extract 0 j) = false) (h : kLt a (b.extract 0 i) = true) : keyMid a b = b.extract 0 i := by
  unfold keyMid
  have e : (List.range (b.size + 1)).find? (fun i => kLt a (b.extract 0 i)) = some i := by
    rw [List.find?_range_eq_some]
    exact ⟨h, List.mem_range.2 (by omega), fun j hj => by rw [hb j hj]; rfl⟩
  rw [e]
theorem mid_none {a b : ByteArray} (hb : ∀ j, j < b.size + 1 → kLt a (b.extract 0 j) = false) : keyMid a b = ⟨#[]⟩ := by
  unfold keyMid
  have e : (List.range (b.size + 1)).find? (fun i => kLt a (b.extract 0 i)) = none := by
    rw [List.find?_eq_none]
    intro j hj
    rw [hb j (List.mem_range.1 hj)]; simp
  rw [e]
end Go.Pl
end

section
namespace Go.Pl
open Go Go.Sx

theorem vlGet_k {l : List UInt8} (h : (vlGet l).2.2 = 0) : 0 < (vlGet l).2.1 ∧ (vlGet l).2.1 ≤ l.length := by
  have hk := @get_k l
  obtain ⟨k, a1, e, hg⟩ : ∃ k a e, get l = (k, a, e) := ⟨_, _, _, rfl⟩
  rw [hg] at hk
  dsimp only at hk
  by_cases he : e = 0
  · subst he
    have hk := hk rfl
    obtain ⟨a, rfl⟩ : ∃ a : Nat, a1 = a := ⟨a1.toNat, by omega⟩
    by_cases h0 : k = 0
    · subst h0; rw [vlGet_none hg]; dsimp only; omega
    · by_cases h1 : k = 1
      · subst h1
        by_cases hs : (l.length : Int) - a < 8
        · rw [vlGet_short hg hs] at h; cases h
        · rw [vlGet_float hg hs] at h ⊢
          split
          · split
            · dsimp only; omega
            · rename_i c1 c2; rw [if_pos c1, if_neg c2] at h; cases h
          · rename_i c1; rw [if_neg c1] at h; cases h
      · by_cases h2 : k = 2
        · subst h2
          obtain ⟨s, n, e2, ht⟩ : ∃ s n e, getText (l.drop a) = (s, n, e) := ⟨_, _, _, rfl⟩
          have hkn := @getText_k (l.drop a)
          rw [ht] at hkn
          rw [vlGet_text hg ht] at h ⊢
          split
          · rename_i c1; rw [if_pos c1] at h; exact absurd h c1
          · rename_i c1
            have hkn := hkn (Decidable.byContradiction c1)
            dsimp only at hkn
            rw [List.length_drop] at hkn
            split
            · dsimp only; omega
            · rename_i c2; rw [if_neg c1, if_neg c2] at h; cases h
        · rw [vlGet_kind hg h0 h1 h2] at h; cases h
  · rw [vlGet_bad hg he] at h; exact absurd h he
section
variable {l : List UInt8} {k : ByteArray} {v w : Vl} {t : Int}
theorem cg_text {a e : Int} (h : getText l = (k, a, e)) (he : e ≠ 0) : cellGet l = (noCell, 0, e) := by
  unfold cellGet; rw [h]; dsimp only; rw [if_pos he]
theorem cg_val {a : Nat} {n e : Int} (h : getText l = (k, (a : Int), 0)) (h2 : vlGet (l.drop a) = (v, n, e)) (he : e ≠ 0) : cellGet l = (noCell, 0, e) := by
  unfold cellGet; rw [h]; dsimp only; rw [if_neg (by simp), Int.toNat_natCast, h2]; dsimp only; rw [if_pos he]
theorem cg_txn {a n : Nat} {n2 e : Int} (h : getText l = (k, (a : Int), 0)) (h2 : vlGet (l.drop a) = (v, (n : Int), 0)) (h3 : get (l.drop (a + n)) = (t, n2, e)) (he : e ≠ 0) : cellGet l = (noCell, 0, e) := by
  unfold cellGet; rw [h]; dsimp only; rw [if_neg (by simp), Int.toNat_natCast, h2]; dsimp only
  rw [if_neg (by simp), show ((a : Int) + (n : Int)).toNat = a + n by omega, h3]; dsimp only; rw [if_pos he]
theorem cg_new {a n n2 : Nat} {n3 e : Int} (h : getText l = (k, (a : Int), 0)) (h2 : vlGet (l.drop a) = (v, (n : Int), 0)) (h3 : get (l.drop (a + n)) = (t, (n2 : Int), 0)) (ht : 0 < t) (h4 : vlGet (l.drop (a + n + n2)) = (w, n3, e)) :
    cellGet l = if e ≠ 0 then (noCell, 0, e) else if mayCell ⟨k, v, t, w⟩ = true then (⟨k, v, t, w⟩, (a : Int) + n + n2 + n3, 0) else (noCell, 0, 1) := by
  unfold cellGet; rw [h]; dsimp only; rw [if_neg (by simp), Int.toNat_natCast, h2]; dsimp only
  rw [if_neg (by simp), show ((a : Int) + (n : Int)).toNat = a + n by omega, h3]; dsimp only
  rw [if_neg (by simp), if_pos ht, show ((a : Int) + (n : Int) + (n2 : Int)).toNat = a + n + n2 by omega, h4]
theorem cg_old {a n n2 : Nat} (h : getText l = (k, (a : Int), 0)) (h2 : vlGet (l.drop a) = (v, (n : Int), 0)) (h3 : get (l.drop (a + n)) = (t, (n2 : Int), 0)) (ht : ¬ 0 < t) :
    cellGet l = if mayCell ⟨k, v, t, noVl⟩ = true then (⟨k, v, t, noVl⟩, (a : Int) + n + n2 + 0, 0) else (noCell, 0, 1) := by
  unfold cellGet; rw [h]; dsimp only; rw [if_neg (by simp), Int.toNat_natCast, h2]; dsimp only
  rw [if_neg (by simp), show ((a : Int) + (n : Int)).toNat = a + n by omega, h3]; dsimp only
  rw [if_neg (by simp), if_neg ht]; dsimp only; rw [if_neg (by simp)]
end
end Go.Pl
end

section
namespace Go.Pl
open Go Go.Sx

/-- a node's struct -/
structure NdAt (hs : List Chunk) (cs : List Value) (n : Nd) : Prop where
  is : ∃ vc vk vi, cs = [.bool n.leaf, vc, vk, vi] ∧ Row encCell 8 hs vc n.cells ∧ Row encS 1 hs vk n.keys ∧ Row encI 1 hs vi n.kids
theorem NdAt.mono {hs hs' : List Chunk} {cs : List Value} {n : Nd} (h : NdAt hs cs n) (hh : ∀ b o, Has hs b o → Has hs' b o) : NdAt hs' cs n := by
  obtain ⟨vc, vk, vi, h1, h2, h3, h4⟩ := h.is
  exact ⟨vc, vk, vi, h1, h2.mono hh, h3.mono hh, h4.mono hh⟩
theorem rising_snoc {l : List ByteArray} {k : ByteArray} : rising (l ++ [k]) ↔ rising l ∧ ∀ p, l.getLast? = some p → kLt p k = true := by
  unfold rising
  rw [List.pairwise_append]
  constructor
  · rintro ⟨h1, _, h3⟩
    exact ⟨h1, fun p hp => h3 p (List.mem_of_getLast? hp) k (by simp)⟩
  · rintro ⟨h1, h2⟩
    refine ⟨h1, by simp, fun a ha b hb => ?_⟩
    rw [List.mem_singleton] at hb; subst hb
    cases hl : l.getLast? with
    | none => rw [List.getLast?_eq_none_iff] at hl; subst hl; cases ha
    | some p =>
      have hp := h2 p hl
      obtain ⟨l0, rfl⟩ := List.getLast?_eq_some_iff.1 hl
      rcases List.mem_append.1 ha with ha | ha
      · rw [List.pairwise_append] at h1
        exact kLt_trans (h1.2.2 a ha p (by simp)) hp
      · rw [List.mem_singleton] at ha; subst ha; exact hp
/-- one more of rising keys -/
theorem rising_take {α : Type} {f : α → ByteArray} {l : List α} {i : Nat} {x : α} (hx : l[i]? = some x) : rising ((l.take (i + 1)).map f) ↔ rising ((l.take i).map f) ∧ (0 < i → ∀ p, l[i - 1]? = some p → kLt (f p) (f x) = true) := by
  rw [take_succ hx, List.map_append, List.map_singleton, rising_snoc]
  have hi := (List.getElem?_eq_some_iff.1 hx).1
  have e : ((l.take i).map f).getLast? = if i = 0 then none else (l[i - 1]?).map f := by
    rw [List.getLast?_eq_getElem?, List.getElem?_map, List.length_map, List.length_take, Nat.min_eq_left (by omega), List.getElem?_take]
    by_cases h : i = 0
    · subst h; simp
    · rw [if_neg h, if_pos (by omega)]
  rw [e]
  constructor
  · rintro ⟨h1, h2⟩
    refine ⟨h1, fun h0 p hp => h2 (f p) ?_⟩
    rw [if_neg (by omega), hp]; rfl
  · rintro ⟨h1, h2⟩
    refine ⟨h1, fun q hq => ?_⟩
    by_cases h : i = 0
    · rw [if_pos h] at hq; cases hq
    · rw [if_neg h] at hq
      obtain ⟨p, hp, rfl⟩ := Option.map_eq_some_iff.1 hq
      exact h2 (by omega) p hp
theorem may_leaf {n : Nd} (h : n.leaf = true) : MayNd n ↔ n.keys = [] ∧ n.kids = [] ∧ (∀ c ∈ n.cells, mayCell c = true) ∧ rising (n.cells.map Cell.key) := by unfold MayNd; rw [if_pos h]
theorem may_ways {n : Nd} (h : n.leaf = false) : MayNd n ↔ n.cells = [] ∧ (∀ k ∈ n.keys, mayKey k = true) ∧ rising n.keys ∧ (∀ x ∈ n.kids, 2 ≤ x ∧ x < 32) ∧ 1 ≤ n.kids.length ∧ n.kids.length ≤ 32 ∧ n.keys.length + 1 = n.kids.length := by unfold MayNd; rw [if_neg (by rw [h]; simp)]
/-- a node with a cell may be, and is: a leaf; that cell may be, and stands behind the one ahead of it -/
theorem may_cell {n : Nd} (h : MayNd n) {i : Nat} {x : Cell} (hx : n.cells[i]? = some x) : n.leaf = true ∧ mayCell x = true ∧ (0 < i → ∀ p, n.cells[i - 1]? = some p → kLt p.key x.key = true) := by
  have hl : n.leaf = true := by
    cases e : n.leaf with
    | true => rfl
    | false => have := ((may_ways e).1 h).1; rw [this] at hx; cases hx
  obtain ⟨_, _, h3, h4⟩ := (may_leaf hl).1 h
  refine ⟨hl, h3 x (List.mem_of_getElem? hx), ?_⟩
  have h5 : rising ((n.cells.take (i + 1)).map Cell.key) := by
    rw [List.map_take]; exact List.Pairwise.sublist (List.take_sublist _ _) h4
  exact ((rising_take hx).1 h5).2
theorem may_key {n : Nd} (h : MayNd n) (hl : n.leaf = false) {i : Nat} {x : ByteArray} (hx : n.keys[i]? = some x) : mayKey x = true ∧ (0 < i → ∀ p, n.keys[i - 1]? = some p → kLt p x = true) := by
  obtain ⟨_, h2, h3, _⟩ := (may_ways hl).1 h
  refine ⟨h2 x (List.mem_of_getElem? hx), ?_⟩
  have h5 : rising ((n.keys.take (i + 1)).map id) := by
    rw [List.map_take, List.map_id]; exact List.Pairwise.sublist (List.take_sublist _ _) h3
  exact ((rising_take hx).1 h5).2
end Go.Pl
end

section
namespace Go.Pl
open Go Go.Sx

theorem may_vl {v : Vl} (h : mayVl v = true) : (0 ≤ v.kind ∧ v.kind ≤ 2) ∧ v.s.size ≤ 20 := by
  unfold mayVl at h
  split at h
  · rw [Bool.and_eq_true, decide_eq_true_eq, decide_eq_true_eq] at h
    rw [h.2]; exact ⟨by omega, by decide⟩
  · split at h
    · rw [Bool.and_eq_true, decide_eq_true_eq, decide_eq_true_eq] at h
      rw [h.1]; exact ⟨by omega, by decide⟩
    · split at h
      · rw [Bool.and_eq_true, decide_eq_true_eq, decide_eq_true_eq] at h
        exact ⟨by omega, h.2⟩
      · cases h
structure CellOk (c : Cell) : Prop where
  k1 : 0 ≤ c.val.kind ∧ c.val.kind ≤ 2
  k2 : 0 ≤ c.new.kind ∧ c.new.kind ≤ 2
  s1 : c.val.s.size ≤ 20
  s2 : c.new.s.size ≤ 20
  key : c.key.size ≤ 16
  txn : 0 ≤ c.txn ∧ c.txn ≤ 1099511627776
theorem cell_ok {c : Cell} (h : mayCell c = true) : CellOk c := by
  unfold mayCell at h
  simp only [Bool.and_eq_true, decide_eq_true_eq] at h
  obtain ⟨⟨⟨⟨⟨h1, h2⟩, h3⟩, h4⟩, h5⟩, _⟩ := h
  unfold mayKey at h1
  rw [Bool.and_eq_true, decide_eq_true_eq, decide_eq_true_eq] at h1
  exact ⟨(may_vl h2).1, (may_vl h3).1, (may_vl h2).2, (may_vl h3).2, h1.2, h4, h5⟩
theorem flat_len {α : Type} {f : α → List UInt8} {b : Nat} : ∀ {l : List α}, (∀ x ∈ l, (f x).length ≤ b) → (l.flatMap f).length ≤ b * l.length := by
  intro l
  induction l with
  | nil => intro _; simp
  | cons x l ih =>
    intro h
    rw [List.flatMap_cons, List.length_append, List.length_cons]
    have h1 := h x (by simp)
    have h2 := ih fun y hy => h y (by simp [hy])
    rw [Nat.mul_succ]; omega
theorem flat_succ {α : Type} {f : α → List UInt8} {l : List α} {i : Nat} {x : α} (h : l[i]? = some x) : (l.take (i + 1)).flatMap f = (l.take i).flatMap f ++ f x := by
  rw [take_succ h, List.flatMap_append, List.flatMap_singleton]
end Go.Pl
end

section
namespace Go.Pl
open Go Go.Sx

structure FitsF (n : Nd) : Prop where
  fits : Fits n
  fl : ∀ c ∈ n.cells, c.val.f < 2 ^ 64 ∧ c.new.f < 2 ^ 64

/-- a reader -/
structure Rd where
  l : List UInt8
  bad : Bool
def Rd.took (r : Rd) (n e : Int) : Rd := if r.bad = true ∨ e ≠ 0 then ⟨r.l, true⟩ else ⟨r.l.drop n.toNat, false⟩
theorem Rd.took_len (r : Rd) (n e : Int) : (r.took n e).l.length ≤ r.l.length := by
  unfold Rd.took; split
  · exact Nat.le_refl _
  · dsimp only; rw [List.length_drop]; omega
theorem Rd.took_ok {r : Rd} {n e : Int} (h : (r.took n e).bad = false) : r.bad = false ∧ e = 0 ∧ (r.took n e).l = r.l.drop n.toNat := by
  unfold Rd.took at h ⊢
  by_cases hc : r.bad = true ∨ e ≠ 0
  · rw [if_pos hc] at h; cases h
  · rw [if_neg hc]
    refine ⟨by cases hb : r.bad <;> simp_all, by omega, rfl⟩
theorem Rd.took_good {r : Rd} {n e : Int} (h1 : r.bad = false) (h2 : e = 0) : r.took n e = ⟨r.l.drop n.toNat, false⟩ := by
  unfold Rd.took; rw [if_neg (by simp [h1, h2])]

theorem vlGet_f {l : List UInt8} : (vlGet l).1.f < 2 ^ 64 := by
  unfold vlGet
  split
  rename_i k at_ e _
  split
  · exact (by decide : (0 : Nat) < 2 ^ 64)
  · split
    · exact (by decide : (0 : Nat) < 2 ^ 64)
    · rename_i v n e h
      split
      · exact (by decide : (0 : Nat) < 2 ^ 64)
      · split
        · dsimp only
          split at h
          · injection h with h; injection h with h; rw [← h]; exact (by decide : (0 : Nat) < 2 ^ 64)
          · split at h
            · split at h
              · injection h with h; injection h with h; rw [← h]; exact (by decide : (0 : Nat) < 2 ^ 64)
              · split at h
                · injection h with h; injection h with h; rw [← h]; exact (by decide : (0 : Nat) < 2 ^ 64)
                · rename_i f hf
                  injection h with h; injection h with h; rw [← h]
                  dsimp only
                  unfold floatGet at hf
                  have hb := beN_lt ((l.drop at_.toNat).take 8)
                  have h8 : ((l.drop at_.toNat).take 8).length ≤ 8 := by rw [List.length_take]; omega
                  have hp : 256 ^ ((l.drop at_.toNat).take 8).length ≤ 256 ^ 8 := Nat.pow_le_pow_right (by decide) h8
                  have e8 : (256 : Nat) ^ 8 = 2 ^ 64 := by decide
                  dsimp only at hf
                  generalize beN ((l.drop at_.toNat).take 8) = u at *
                  by_cases hq : placeN (if u = 0 then 0x7ff8000000000000 else if u < 2 ^ 63 then 2 ^ 64 - 1 - u else u - 2 ^ 63) = u
                  · rw [if_pos hq] at hf
                    injection hf with hf
                    rw [← hf]
                    by_cases g1 : u = 0
                    · rw [if_pos g1]; decide
                    · rw [if_neg g1]
                      by_cases g2 : u < 2 ^ 63
                      · rw [if_pos g2]; omega
                      · rw [if_neg g2]; omega
                  · rw [if_neg hq] at hf; cases hf
            · split at h
              · split at h
                injection h with h; injection h with h; rw [← h]; exact (by decide : (0 : Nat) < 2 ^ 64)
              · cases h
        · exact (by decide : (0 : Nat) < 2 ^ 64)
theorem cellGet_f {l : List UInt8} : (cellGet l).1.val.f < 2 ^ 64 ∧ (cellGet l).1.new.f < 2 ^ 64 := by
  have hz : noCell.val.f < 2 ^ 64 ∧ noCell.new.f < 2 ^ 64 := by decide
  unfold cellGet
  split
  rename_i k a e _
  split
  · exact hz
  · have h1 := @vlGet_f (l.drop a.toNat)
    generalize vlGet (l.drop a.toNat) = p at *
    obtain ⟨v, n, e⟩ := p
    dsimp only at h1 ⊢
    split
    · exact hz
    · generalize get (l.drop (a + n).toNat) = p at *
      obtain ⟨t, n2, e⟩ := p
      dsimp only
      split
      · exact hz
      · have h2 : (if 0 < t then vlGet (l.drop (a + n + n2).toNat) else (noVl, 0, 0)).1.f < 2 ^ 64 := by
          split
          · exact vlGet_f
          · exact (by decide : (0 : Nat) < 2 ^ 64)
        generalize (if 0 < t then vlGet (l.drop (a + n + n2).toNat) else (noVl, 0, 0)) = p at *
        obtain ⟨w, n3, e⟩ := p
        dsimp only at h2 ⊢
        split
        · exact hz
        · split
          · exact ⟨h1, h2⟩
          · exact hz

theorem putU_pos (u : Nat) : 0 < (putU u).length := by
  unfold putU; split <;> simp
theorem put_pos (n : Int) : 0 < (put n).length := putU_pos _

/-- a page that has that node -/
def IsPage (bs : List UInt8) (n : Nd) : Prop := FitsF n ∧ bs = (encNd n).1
theorem enc_is {n : Nd} (h : FitsF n) : (encNd n).1 = ndBytes n ++ List.replicate (256 - (ndBytes n).length) 0 := by
  unfold encNd; rw [if_pos h.fits.1, if_neg (by have := h.fits.2; omega)]
theorem IsPage.len {bs : List UInt8} {n : Nd} (h : IsPage bs n) : bs.length = 256 := by rw [h.2]; exact enc_len h.1.fits
theorem page_leaf {bs : List UInt8} {n : Nd} (h : IsPage bs n) (hl : n.leaf = true) : ∃ pad, bs = 1 :: (put n.cells.length ++ (n.cells.flatMap cellBytes ++ pad)) := by
  refine ⟨List.replicate (256 - (ndBytes n).length) 0, ?_⟩
  rw [h.2, enc_is h.1]
  unfold ndBytes
  rw [if_pos hl]
  simp only [List.cons_append, List.append_assoc]
theorem page_ways {bs : List UInt8} {n : Nd} (h : IsPage bs n) (hl : n.leaf = false) : ∃ pad, bs = 2 :: (put n.kids.length ++ (n.kids.flatMap put ++ (n.keys.flatMap putText ++ pad))) := by
  refine ⟨List.replicate (256 - (ndBytes n).length) 0, ?_⟩
  rw [h.2, enc_is h.1]
  unfold ndBytes
  rw [if_neg (by rw [hl]; simp)]
  simp only [List.cons_append, List.append_assoc]
theorem page_first {bs : List UInt8} {n : Nd} (h : IsPage bs n) : n.leaf = decide (bs[0]? = some 1) := by
  cases hl : n.leaf with
  | true => obtain ⟨pad, e⟩ := page_leaf h hl; rw [e]; simp
  | false => obtain ⟨pad, e⟩ := page_ways h hl; rw [e]; simp

theorem cellGet_k {l : List UInt8} (h : (cellGet l).2.2 = 0) : 0 < (cellGet l).2.1 ∧ (cellGet l).2.1 ≤ l.length := by
  unfold cellGet at h ⊢
  have hk1 := @getText_k l
  generalize getText l = p at *
  obtain ⟨k, a, e⟩ := p
  dsimp only at *
  by_cases h1 : e ≠ 0
  · rw [if_pos h1] at h; exact absurd h h1
  rw [if_neg h1] at h ⊢
  have hk1 := hk1 (by omega)
  have hk2 := @vlGet_k (l.drop a.toNat)
  generalize vlGet (l.drop a.toNat) = p at *
  obtain ⟨v, n, e2⟩ := p
  dsimp only at *
  by_cases h2 : e2 ≠ 0
  · rw [if_pos h2] at h; exact absurd h h2
  rw [if_neg h2] at h ⊢
  have hk2 := hk2 (by omega)
  rw [List.length_drop] at hk2
  have hk3 := @get_k (l.drop (a + n).toNat)
  generalize get (l.drop (a + n).toNat) = p at *
  obtain ⟨t, n2, e3⟩ := p
  dsimp only at *
  by_cases h3 : e3 ≠ 0
  · rw [if_pos h3] at h; exact absurd h h3
  rw [if_neg h3] at h ⊢
  have hk3 := hk3 (by omega)
  rw [List.length_drop] at hk3
  have hk4 : ∀ p, (if 0 < t then vlGet (l.drop (a + n + n2).toNat) else (noVl, 0, 0)) = p → p.2.2 = 0 → 0 ≤ p.2.1 ∧ a + n + n2 + p.2.1 ≤ l.length := by
    intro p hp he
    by_cases ht : 0 < t
    · rw [if_pos ht] at hp
      have := @vlGet_k (l.drop (a + n + n2).toNat)
      rw [hp, List.length_drop] at this
      have := this he
      omega
    · rw [if_neg ht] at hp; rw [← hp]; dsimp only; omega
  generalize (if 0 < t then vlGet (l.drop (a + n + n2).toNat) else (noVl, 0, 0)) = p at *
  obtain ⟨w, n3, e4⟩ := p
  have hk4 := hk4 _ rfl
  dsimp only at *
  by_cases h4 : e4 ≠ 0
  · rw [if_pos h4] at h; exact absurd h h4
  rw [if_neg h4] at h ⊢
  have hk4 := hk4 (by omega)
  split at h
  · rename_i hm; rw [if_pos hm]; dsimp only; omega
  · cases h

/-! ### reading cells -/
structure LfInv (bs : List UInt8) (k : Int) (r : Rd) (cells : List Cell) : Prop where
  few : cells.length ≤ 256
  room : r.bad = false → cells.length + r.l.length ≤ 255
  fl : ∀ c ∈ cells, c.val.f < 2 ^ 64 ∧ c.new.f < 2 ^ 64
  is : ∀ n0, IsPage bs n0 → n0.leaf = true → r.bad = false ∧ ∃ (j : Nat) (pad : List UInt8), j ≤ n0.cells.length ∧ k = (n0.cells.length : Int) - j ∧ cells = n0.cells.take j ∧ r.l = (n0.cells.drop j).flatMap cellBytes ++ pad
theorem Fits.few {n : Nd} (h : Fits n) : n.cells.length ≤ 256 ∧ n.kids.length ≤ 256 := by
  have h2 := h.2
  unfold ndBytes at h2
  split at h2
  · rename_i hl
    obtain ⟨_, hk, _⟩ := (may_leaf hl).1 h.1
    refine ⟨?_, by rw [hk]; simp⟩
    have : ∀ l : List Cell, l.length ≤ (l.flatMap cellBytes).length := by
      intro l
      induction l with
      | nil => simp
      | cons c l ih =>
        rw [List.flatMap_cons, List.length_append, List.length_cons]
        have : 0 < (cellBytes c).length := by
          unfold cellBytes; simp only [List.length_append]; have := putText_length c.key; have := put_pos (c.key.size : Int); omega
        omega
    have := this n.cells
    simp only [List.length_cons, List.length_append] at h2
    omega
  · rename_i hl
    obtain ⟨hc, _, _, _, _, h6, _⟩ := (may_ways (by simpa using hl)).1 h.1
    exact ⟨by rw [hc]; simp, by omega⟩
theorem took_first {bs : List UInt8} {c : UInt8} {n : Nat} {rest : List UInt8} (h : bs = c :: (put n ++ rest)) (hn : n ≤ 256) :
    (get (bs.drop 1)).1 = n ∧ (Rd.mk (bs.drop 1) false).took (get (bs.drop 1)).2.1 (get (bs.drop 1)).2.2 = ⟨rest, false⟩ := by
  rw [h, List.drop_succ_cons, List.drop_zero, get_put (by omega) (by omega)]
  refine ⟨rfl, ?_⟩
  rw [Rd.took_good rfl rfl]
  dsimp only
  rw [Int.toNat_natCast, List.drop_left]
theorem LfInv.start {bs : List UInt8} (hl : bs.length = 256) : LfInv bs (get (bs.drop 1)).1 ((Rd.mk (bs.drop 1) false).took (get (bs.drop 1)).2.1 (get (bs.drop 1)).2.2) [] := by
  refine ⟨by simp, fun _ => ?_, by simp, fun n0 h0 hlf => ?_⟩
  · have := (Rd.mk (bs.drop 1) false).took_len (get (bs.drop 1)).2.1 (get (bs.drop 1)).2.2
    dsimp only at this
    rw [List.length_drop] at this
    simp only [List.length_nil]; omega
  · obtain ⟨pad, e⟩ := page_leaf h0 hlf
    obtain ⟨h1, h2⟩ := took_first e h0.1.fits.few.1
    rw [h1, h2]
    exact ⟨rfl, 0, pad, by omega, by omega, by simp, by simp⟩
theorem LfInv.step {bs : List UInt8} {k : Int} {r : Rd} {cells : List Cell} (h : LfInv bs k r cells) (hb : r.bad = false) (hk : 0 < k) :
    LfInv bs (k - 1) (r.took (cellGet r.l).2.1 (cellGet r.l).2.2) (cells ++ [(cellGet r.l).1]) ∧ ((r.took (cellGet r.l).2.1 (cellGet r.l).2.2).bad = false → (r.took (cellGet r.l).2.1 (cellGet r.l).2.2).l.length < r.l.length) := by
  have hlt : (r.took (cellGet r.l).2.1 (cellGet r.l).2.2).bad = false → (r.took (cellGet r.l).2.1 (cellGet r.l).2.2).l.length < r.l.length := fun hg => by
    obtain ⟨_, he, hd⟩ := Rd.took_ok hg
    have := cellGet_k he
    rw [hd, List.length_drop]; omega
  refine ⟨⟨?_, fun hg => ?_, ?_, fun n0 h0 hlf => ?_⟩, hlt⟩
  · have := h.room hb; rw [List.length_append]; simp only [List.length_singleton]; omega
  · have := h.room hb; have := hlt hg; rw [List.length_append]; simp only [List.length_singleton]; omega
  · intro c hc
    rw [List.mem_append, List.mem_singleton] at hc
    rcases hc with hc | rfl
    · exact h.fl c hc
    · exact cellGet_f
  · obtain ⟨_, j, pad, hj, hkj, hcs, hr⟩ := h.is n0 h0 hlf
    obtain ⟨c, hc⟩ : ∃ c, n0.cells[j]? = some c := ⟨_, List.getElem?_eq_getElem (by omega)⟩
    have hdr : n0.cells.drop j = c :: n0.cells.drop (j + 1) := by
      rw [List.drop_eq_getElem_cons (by omega)]; congr 1
      exact (List.getElem?_eq_some_iff.1 hc).2
    rw [hdr, List.flatMap_cons, List.append_assoc] at hr
    have hm : mayCell c = true := ((may_leaf hlf).1 h0.1.fits.1).2.2.1 c (List.mem_of_getElem? hc)
    have hf := h0.1.fl c (List.mem_of_getElem? hc)
    have hg := cellGet_bytes hm hf.1 hf.2 ((n0.cells.drop (j + 1)).flatMap cellBytes ++ pad)
    rw [← hr] at hg
    rw [hg, Rd.took_good hb rfl]
    refine ⟨rfl, j + 1, pad, by omega, by omega, ?_, ?_⟩
    · rw [hcs, List.take_add_one, hc]; rfl
    · dsimp only; rw [hr, Int.toNat_natCast, List.drop_left]

/-! ### reading ways -/
structure KdInv (bs : List UInt8) (k : Int) (i : Nat) (r : Rd) (kids : List Int) : Prop where
  eqi : i = kids.length
  few : kids.length ≤ 256
  room : r.bad = false → kids.length + r.l.length ≤ 255
  is : ∀ n0, IsPage bs n0 → n0.leaf = false → r.bad = false ∧ k = n0.kids.length ∧ i ≤ n0.kids.length ∧ kids = n0.kids.take i ∧ ∃ pad : List UInt8, r.l = (n0.kids.drop i).flatMap put ++ (n0.keys.flatMap putText ++ pad)
theorem KdInv.start {bs : List UInt8} (hl : bs.length = 256) : KdInv bs (get (bs.drop 1)).1 0 ((Rd.mk (bs.drop 1) false).took (get (bs.drop 1)).2.1 (get (bs.drop 1)).2.2) [] := by
  refine ⟨rfl, by simp, fun _ => ?_, fun n0 h0 hlf => ?_⟩
  · have := (Rd.mk (bs.drop 1) false).took_len (get (bs.drop 1)).2.1 (get (bs.drop 1)).2.2
    dsimp only at this
    rw [List.length_drop] at this
    simp only [List.length_nil]; omega
  · obtain ⟨pad, e⟩ := page_ways h0 hlf
    obtain ⟨h1, h2⟩ := took_first e h0.1.fits.few.2
    rw [h1, h2]
    exact ⟨rfl, rfl, by omega, by simp, pad, by simp⟩
theorem KdInv.step {bs : List UInt8} {k : Int} {i : Nat} {r : Rd} {kids : List Int} (h : KdInv bs k i r kids) (hb : r.bad = false) (hk : (i : Int) < k) :
    KdInv bs k (i + 1) (r.took (get r.l).2.1 (get r.l).2.2) (kids ++ [(get r.l).1]) ∧ ((r.took (get r.l).2.1 (get r.l).2.2).bad = false → (r.took (get r.l).2.1 (get r.l).2.2).l.length < r.l.length) := by
  have hlt : (r.took (get r.l).2.1 (get r.l).2.2).bad = false → (r.took (get r.l).2.1 (get r.l).2.2).l.length < r.l.length := fun hg => by
    obtain ⟨_, he, hd⟩ := Rd.took_ok hg
    have := get_k he
    rw [hd, List.length_drop]; omega
  refine ⟨⟨by rw [List.length_append, ← h.eqi]; rfl, ?_, fun hg => ?_, fun n0 h0 hlf => ?_⟩, hlt⟩
  · have := h.room hb; rw [List.length_append]; simp only [List.length_singleton]; omega
  · have := h.room hb; have := hlt hg; rw [List.length_append]; simp only [List.length_singleton]; omega
  · obtain ⟨_, hkk, hj, hcs, pad, hr⟩ := h.is n0 h0 hlf
    obtain ⟨c, hc⟩ : ∃ c, n0.kids[i]? = some c := ⟨_, List.getElem?_eq_getElem (by omega)⟩
    have hdr : n0.kids.drop i = c :: n0.kids.drop (i + 1) := by
      rw [List.drop_eq_getElem_cons (by omega)]; congr 1
      exact (List.getElem?_eq_some_iff.1 hc).2
    rw [hdr, List.flatMap_cons, List.append_assoc] at hr
    have hm := ((may_ways hlf).1 h0.1.fits.1).2.2.2.1 c (List.mem_of_getElem? hc)
    have hg := get_put (n := c) (by omega) (by omega) ((n0.kids.drop (i + 1)).flatMap put ++ (n0.keys.flatMap putText ++ pad))
    rw [← hr] at hg
    rw [hg, Rd.took_good hb rfl]
    refine ⟨rfl, hkk, by omega, ?_, pad, ?_⟩
    · rw [hcs, List.take_add_one, hc]; rfl
    · dsimp only; rw [hr, Int.toNat_natCast, List.drop_left]
structure KyInv (bs : List UInt8) (k : Int) (i : Nat) (r : Rd) (kids : List Int) (keys : List ByteArray) : Prop where
  eqi : i = keys.length + 1
  few : keys.length ≤ 256
  room : r.bad = false → keys.length + r.l.length ≤ 255
  is : ∀ n0, IsPage bs n0 → n0.leaf = false → r.bad = false ∧ k = n0.kids.length ∧ kids = n0.kids ∧ keys.length ≤ n0.keys.length ∧ keys = n0.keys.take keys.length ∧ ∃ pad : List UInt8, r.l = (n0.keys.drop keys.length).flatMap putText ++ pad
theorem KyInv.start {bs : List UInt8} {k : Int} {i : Nat} {r : Rd} {kids : List Int} (h : KdInv bs k i r kids) (he : ¬ ((i : Int) < k) ∨ r.bad = true) : KyInv bs k 1 r kids [] := by
  refine ⟨rfl, by simp, fun hb => by have := h.room hb; simp only [List.length_nil]; omega, fun n0 h0 hlf => ?_⟩
  obtain ⟨hb, hk, hi, hks, pad, hr⟩ := h.is n0 h0 hlf
  have hil : i = n0.kids.length := he.elim (fun he => by omega) (fun he => by rw [hb] at he; cases he)
  subst hil
  rw [List.take_length] at hks
  exact ⟨hb, hk, hks, by simp, by simp, pad, by rw [hr]; simp⟩
theorem KyInv.step {bs : List UInt8} {k : Int} {i : Nat} {r : Rd} {kids : List Int} {keys : List ByteArray} (h : KyInv bs k i r kids keys) (hb : r.bad = false) (hk : (i : Int) < k) :
    KyInv bs k (i + 1) (r.took (getText r.l).2.1 (getText r.l).2.2) kids (keys ++ [(getText r.l).1]) ∧ ((r.took (getText r.l).2.1 (getText r.l).2.2).bad = false → (r.took (getText r.l).2.1 (getText r.l).2.2).l.length < r.l.length) := by
  have hlt : (r.took (getText r.l).2.1 (getText r.l).2.2).bad = false → (r.took (getText r.l).2.1 (getText r.l).2.2).l.length < r.l.length := fun hg => by
    obtain ⟨_, he, hd⟩ := Rd.took_ok hg
    have := getText_k he
    rw [hd, List.length_drop]; omega
  refine ⟨⟨by rw [List.length_append, h.eqi]; rfl, ?_, fun hg => ?_, fun n0 h0 hlf => ?_⟩, hlt⟩
  · have := h.room hb; rw [List.length_append]; simp only [List.length_singleton]; omega
  · have := h.room hb; have := hlt hg; rw [List.length_append]; simp only [List.length_singleton]; omega
  · obtain ⟨_, hkk, hkid, hj, hcs, pad, hr⟩ := h.is n0 h0 hlf
    obtain ⟨_, hmk, _, _, _, _, hlen⟩ := (may_ways hlf).1 h0.1.fits.1
    have hi := h.eqi
    obtain ⟨c, hc⟩ : ∃ c, n0.keys[keys.length]? = some c := ⟨_, List.getElem?_eq_getElem (by omega)⟩
    have hdr : n0.keys.drop keys.length = c :: n0.keys.drop (keys.length + 1) := by
      rw [List.drop_eq_getElem_cons (by omega)]; congr 1
      exact (List.getElem?_eq_some_iff.1 hc).2
    rw [hdr, List.flatMap_cons, List.append_assoc] at hr
    have hm := hmk c (List.mem_of_getElem? hc)
    unfold mayKey at hm
    rw [Bool.and_eq_true, decide_eq_true_eq, decide_eq_true_eq] at hm
    have hg := getText_put (s := c) (Nat.le_trans hm.2 (by decide)) ((n0.keys.drop (keys.length + 1)).flatMap putText ++ pad)
    rw [← hr] at hg
    rw [hg, Rd.took_good hb rfl]
    dsimp only
    rw [List.length_append, List.length_singleton]
    refine ⟨rfl, hkk, hkid, by have := (List.getElem?_eq_some_iff.1 hc).1; omega, ?_, pad, ?_⟩
    · conv => rhs; rw [List.take_add_one, hc, ← hcs]
      rfl
    · rw [hr, Int.toNat_natCast, List.drop_left]

/-- what was read -/
inductive DecR (bs : List UInt8) (n : Nd) (e : Int) : Prop
  | ok : e = 0 → IsPage bs n → DecR bs n e
  | bad : e = 8 → n = noNd → (¬ ∃ n0, IsPage bs n0) → DecR bs n e
theorem read_leaf {bs : List UInt8} {k : Int} {r : Rd} {cells : List Cell} (h : LfInv bs k r cells) (he : ¬ 0 < k ∨ r.bad = true) {n0 : Nd} (h0 : IsPage bs n0) (hl : n0.leaf = true) : r.bad = false ∧ n0 = ⟨true, cells, [], []⟩ := by
  obtain ⟨hb, j, pad, hj, hk, hcs, _⟩ := h.is n0 h0 hl
  have hjl : j = n0.cells.length := he.elim (fun he => by omega) (fun he => by rw [hb] at he; cases he)
  rw [hjl, List.take_length] at hcs
  obtain ⟨h1, h2, _⟩ := (may_leaf hl).1 h0.1.fits.1
  refine ⟨hb, ?_⟩
  cases n0; simp_all
theorem read_ways {bs : List UInt8} {k : Int} {i : Nat} {r : Rd} {kids : List Int} {keys : List ByteArray} (h : KyInv bs k i r kids keys) (he : ¬ ((i : Int) < k) ∨ r.bad = true) {n0 : Nd} (h0 : IsPage bs n0) (hl : n0.leaf = false) : r.bad = false ∧ n0 = ⟨false, [], keys, kids⟩ := by
  obtain ⟨hb, hk, hkid, hj, hcs, _⟩ := h.is n0 h0 hl
  obtain ⟨h1, _, _, _, _, _, hlen⟩ := (may_ways hl).1 h0.1.fits.1
  have hi := h.eqi
  have hjl : keys.length = n0.keys.length := he.elim (fun he => by omega) (fun he => by rw [hb] at he; cases he)
  rw [hjl, List.take_length] at hcs
  refine ⟨hb, ?_⟩
  cases n0; simp_all
theorem unzig_bound {u : Nat} (h : u < 18446744073709551616) : -9223372036854775808 ≤ unzig u ∧ unzig u ≤ 9223372036854775807 := by
  unfold unzig; split <;> omega
theorem getL_bound : ∀ (l : List UInt8) (i u : Nat), i ≤ 9 → u < 128 ^ i → -9223372036854775808 ≤ (getL i u l).1 ∧ (getL i u l).1 ≤ 9223372036854775807
  | [], _, _, _, _ => by unfold getL; decide
  | c :: l, i, u, hi, hu => by
    have hc := c.toNat_lt
    unfold getL
    by_cases h1 : i = 9 ∧ 1 < c.toNat
    · rw [if_pos h1]; decide
    rw [if_neg h1]
    have hm : c.toNat % 128 * 128 ^ i ≤ 127 * 128 ^ i := Nat.mul_le_mul_right _ (by omega)
    have hp : 128 ^ (i + 1) = 128 ^ i * 128 := Nat.pow_succ ..
    by_cases h2 : 127 < c.toNat
    · rw [if_pos h2]
      exact getL_bound l (i + 1) _ (by omega) (by omega)
    rw [if_neg h2]
    by_cases h3 : 0 < i ∧ c.toNat = 0
    · rw [if_pos h3]; decide
    rw [if_neg h3]
    refine unzig_bound ?_
    by_cases h9 : i = 9
    · subst h9
      have e : (128 : Nat) ^ 9 = 9223372036854775808 := by decide
      rw [e] at *
      have : c.toNat % 128 ≤ 1 := by omega
      have : c.toNat % 128 * 9223372036854775808 ≤ 1 * 9223372036854775808 := Nat.mul_le_mul_right _ this
      omega
    · have : 128 ^ (i + 1) ≤ 128 ^ 9 := Nat.pow_le_pow_right (by decide) (by omega)
      have e : (128 : Nat) ^ 9 = 9223372036854775808 := by decide
      omega
theorem get_bound (l : List UInt8) : -9223372036854775808 ≤ (get l).1 ∧ (get l).1 ≤ 9223372036854775807 := getL_bound l 0 0 (by omega) (by decide)
end Go.Pl
end

section
namespace Go.Pl
open Go Go.Sx
variable [Outer]

omit [Outer] in
theorem has_app_l {A B : Chunk} {hs : List Chunk} {b : Nat} {o : Obj} (h : Has (A :: hs) b o) : Has ((A ++ B) :: hs) b o := by
  cases h with
  | here hm => exact .here (List.mem_append_left _ hm)
  | there h => exact .there h
omit [Outer] in
theorem has_app_r {A B : Chunk} {hs : List Chunk} {b : Nat} {o : Obj} (h : Has (B :: hs) b o) : Has ((A ++ B) :: hs) b o := by
  cases h with
  | here hm => exact .here (List.mem_append_right _ hm)
  | there h => exact .there h
/-- a node's struct, its slices its own -/
structure NdOwn (tC tS tI : Nat) (cs : List Value) (n : Nd) (H : Chunk) : Prop where
  is : ∃ vc vk vi A B C, cs = [.bool n.leaf, vc, vk, vi] ∧ H = A ++ (B ++ C) ∧ Own encCell 8 tC vc n.cells A ∧ Own encS 1 tS vk n.keys B ∧ Own encI 1 tI vi n.kids C
omit [Outer] in
theorem NdOwn.at {tC tS tI : Nat} {cs : List Value} {n : Nd} {H : Chunk} (h : NdOwn tC tS tI cs n H) (hs : List Chunk) : NdAt (H :: hs) cs n := by
  obtain ⟨vc, vk, vi, A, B, C, rfl, rfl, h1, h2, h3⟩ := h.is
  exact ⟨vc, vk, vi, rfl, (h1.row (hs := hs)).mono fun _ _ => has_app_l, (h2.row (hs := hs)).mono fun _ _ h => has_app_r (has_app_l h), (h3.row (hs := hs)).mono fun _ _ h => has_app_r (has_app_r h)⟩
omit [Outer] in
theorem NdOwn.none (tC tS tI : Nat) : NdOwn tC tS tI [.bool false, .slice none 0 0, .slice none 0 0, .slice none 0 0] noNd [] :=
  ⟨_, _, _, [], [], [], rfl, rfl, Own.nil, Own.nil, Own.nil⟩
omit [Outer] in
theorem own_one {α : Type} {enc : α → List Value} {sz e : Nat} {v : Value} {xs : List α} {H : Chunk} (h : Own enc sz e v xs H) : oneC v = true := by
  obtain ⟨_, ⟨rfl, _⟩ | ⟨b, cap, pre, sp, fr, rfl, _⟩⟩ := h <;> rfl
omit [Outer] in
theorem NdOwn.all1 {tC tS tI : Nat} {cs : List Value} {n : Nd} {H : Chunk} (h : NdOwn tC tS tI cs n H) : ones cs = true := by
  obtain ⟨vc, vk, vi, A, B, C, rfl, _, h1, h2, h3⟩ := h.is
  show (true && (oneC vc && (oneC vk && (oneC vi && true)))) = true
  rw [own_one h1, own_one h2, own_one h3]; rfl
omit [Outer] in
theorem NdOwn.four {tC tS tI : Nat} {cs : List Value} {n : Nd} {H : Chunk} (h : NdOwn tC tS tI cs n H) : cs.length = 4 := by
  obtain ⟨vc, vk, vi, A, B, C, rfl, _⟩ := h.is; rfl
omit [Outer] in
theorem took_lt {r r' : Rd} (hb : r.bad = false) (h : r'.bad = false → r'.l.length < r.l.length) : (if r'.bad = true then 0 else r'.l.length + 1) < if r.bad = true then 0 else r.l.length + 1 := by
  rw [if_neg (by rw [hb]; simp : ¬ r.bad = true)]
  by_cases hb2 : r'.bad = true
  · rw [if_pos hb2]; omega
  · rw [if_neg hb2]; have := h (by simpa using hb2); omega
end Go.Pl
end

section
namespace Go.Pl
open Go Go.Sx

theorem ones_bytes (l : List UInt8) : ones (l.flatMap encB) = true := bytes_ones (fun _ => rfl) l
def noughts (n : Nat) : List UInt8 := List.replicate n 0
theorem noughts_length (a : Nat) : (noughts a).length = a := List.length_replicate
def mayPage (no : Int) : Prop := 0 ≤ no ∧ no < 96
instance (no : Int) : Decidable (mayPage no) := by unfold mayPage; exact inferInstance
/-- one page's bytes are others -/
def upd (now : Int → List UInt8) (no : Int) (b : List UInt8) : Int → List UInt8 := fun k => if k = no then b else now k
/-- an image: its page, its bytes -/
abbrev Img := Int × List UInt8
def MayImgs (l : List Img) : Prop := l ≠ [] ∧ (∀ x ∈ l, mayPage x.1 ∧ x.2.length = 256) ∧ l.Pairwise fun x y => x.1 < y.1
noncomputable instance (l : List Img) : Decidable (MayImgs l) := Classical.propDecidable _
/-- as far as the first i -/
def MayTo (l : List Img) (i : Nat) : Prop := (∀ x ∈ l.take i, mayPage x.1 ∧ x.2.length = 256) ∧ (l.take i).Pairwise fun x y => x.1 < y.1
theorem MayTo.zero (l : List Img) : MayTo l 0 := ⟨by simp, by simp⟩
theorem MayTo.step {l : List Img} {i : Nat} {x : Img} (h : MayTo l i) (hx : l[i]? = some x) (h1 : mayPage x.1) (h2 : x.2.length = 256) (h3 : ∀ j y, i = j + 1 → l[j]? = some y → y.1 < x.1) : MayTo l (i + 1) := by
  have hs := take_succ hx
  refine ⟨fun y hy => ?_, ?_⟩
  · rw [hs] at hy
    rcases List.mem_append.1 hy with hy | hy
    · exact h.1 y hy
    · rw [List.mem_singleton] at hy; subst hy; exact ⟨h1, h2⟩
  · rw [hs, List.pairwise_append]
    refine ⟨h.2, by simp, fun a ha c hc => ?_⟩
    rw [List.mem_singleton] at hc; subst hc
    match i, h, h3, ha with
    | 0, _, _, ha => simp at ha
    | j + 1, h, h3, ha =>
      have hj : j < l.length := by have := (List.getElem?_eq_some_iff.1 hx).1; omega
      obtain ⟨y, hy⟩ := nth hj
      have hyx := h3 j y rfl hy
      have hp := h.2
      rw [take_succ hy] at ha hp
      rw [List.pairwise_append] at hp
      rcases List.mem_append.1 ha with ha | ha
      · have := hp.2.2 a ha y (by simp); omega
      · rw [List.mem_singleton] at ha; subst ha; exact hyx
theorem MayTo.all {l : List Img} (h : MayTo l l.length) (hne : 0 < l.length) : MayImgs l := by
  have h1 := h.1; have h2 := h.2
  rw [List.take_length] at h1 h2
  exact ⟨by intro e; subst e; simp at hne, h1, h2⟩
theorem asc_length : ∀ {l : List Img} {a : Int}, 0 ≤ a → a ≤ 96 → (∀ x ∈ l, a ≤ x.1 ∧ x.1 < 96) → (l.Pairwise fun x y => x.1 < y.1) → (l.length : Int) ≤ 96 - a := by
  intro l
  induction l with
  | nil => intro a h0 h1 _ _; simp; omega
  | cons x l ih =>
    intro a h0 h1 h hp
    obtain ⟨a1, a2⟩ := h x (by simp)
    rw [List.pairwise_cons] at hp
    have := ih (a := x.1 + 1) (by omega) (by omega) (fun y hy => ⟨by have := hp.1 y hy; omega, (h y (by simp [hy])).2⟩) hp.2
    simp only [List.length_cons]; omega
theorem MayImgs.few {l : List Img} (h : MayImgs l) : l.length ≤ 96 := by
  have := asc_length (l := l) (a := 0) (by omega) (by omega) (fun x hx => (h.2.1 x hx).1) h.2.2
  omega
theorem MayImgs.pos {l : List Img} (h : MayImgs l) : 0 < l.length := by
  cases l with
  | nil => exact absurd rfl h.1
  | cons x l => simp

/-! ### noughts at the end -/
/-! ### images as bytes -/
theorem put_length (n : Int) : 1 ≤ (put n).length := by unfold put; rw [putU]; split <;> simp
theorem put_len {n : Int} (h0 : 0 ≤ n) (h1 : n ≤ 65536) : 1 ≤ (put n).length ∧ (put n).length ≤ 10 := ⟨put_length n, put_ten (by omega) (by omega)⟩
/-! ### laid over pages -/
abbrev Pages := Int → List UInt8
def lay (P : Pages) (l : List Img) : Pages := l.foldl (fun P x => upd P x.1 x.2) P
def EqP (P P' : Pages) : Prop := ∀ no, mayPage no → P no = P' no
theorem EqP.refl (P : Pages) : EqP P P := fun _ _ => rfl
theorem EqP.symm {P P' : Pages} (h : EqP P P') : EqP P' P := fun no hn => (h no hn).symm
theorem EqP.trans {P P' P'' : Pages} (h : EqP P P') (h' : EqP P' P'') : EqP P P'' := fun no hn => (h no hn).trans (h' no hn)
theorem EqP.upd {P P' : Pages} (h : EqP P P') (no : Int) (b : List UInt8) : EqP (upd P no b) (upd P' no b) := fun k hk => by
  unfold Go.Pl.upd; split
  · rfl
  · exact h k hk
theorem EqP.lay : ∀ {l : List Img} {P P' : Pages}, EqP P P' → EqP (lay P l) (lay P' l) := by
  intro l
  induction l with
  | nil => intro P P' h; exact h
  | cons x l ih => intro P P' h; exact ih (h.upd _ _)
def Touches (l : List Img) (no : Int) : Prop := ∃ x ∈ l, x.1 = no
theorem Touches.append {l m : List Img} {no : Int} : Touches (l ++ m) no ↔ Touches l no ∨ Touches m no := by
  unfold Touches; simp only [List.mem_append]
  constructor
  · rintro ⟨x, h | h, e⟩
    · exact .inl ⟨x, h, e⟩
    · exact .inr ⟨x, h, e⟩
  · rintro (⟨x, h, e⟩ | ⟨x, h, e⟩)
    · exact ⟨x, .inl h, e⟩
    · exact ⟨x, .inr h, e⟩
structure Im where
  no : Int
  v : Value
  b : List UInt8
def encIm (x : Im) : List Value := [.int .i64 x.no, x.v]
def Im.img (x : Im) : Img := (x.no, x.b)
def imgs (ts : List Im) : List Img := ts.map Im.img
/-- images that can be read -/
structure ImsAt (hs : List Chunk) (v : Value) (ts : List Im) : Prop where
  row : Row encIm 2 hs v ts
  each : ∀ t ∈ ts, Row encB 1 hs t.v t.b
  few : ts.length ≤ 9223372036854775807
  len : ∀ t ∈ ts, t.b.length ≤ 9223372036854775807
theorem ImsAt.mono {hs hs' : List Chunk} {v : Value} {ts : List Im} (h : ImsAt hs v ts) (hh : ∀ b o, Has hs b o → Has hs' b o) : ImsAt hs' v ts := ⟨h.row.mono hh, fun t ht => (h.each t ht).mono hh, h.few, h.len⟩
theorem ImsAt.there {A : Chunk} {hs : List Chunk} {v : Value} {ts : List Im} (h : ImsAt hs v ts) : ImsAt (A :: hs) v ts := h.mono fun _ _ => .there
theorem imgs_at {ts : List Im} {i : Nat} {t : Im} (h : ts[i]? = some t) : (imgs ts)[i]? = some t.img := by unfold imgs; rw [List.getElem?_map, h]; rfl
theorem imgs_length (ts : List Im) : (imgs ts).length = ts.length := List.length_map _
theorem imgs_append (ts us : List Im) : imgs (ts ++ us) = imgs ts ++ imgs us := by unfold imgs; rw [List.map_append]
theorem oneC_slice {α : Type} {enc : α → List Value} {sz : Nat} {hs : List Chunk} {v : Value} {xs : List α} (h : Row enc sz hs v xs) : oneC v = true := by
  obtain ⟨a, c, rfl⟩ := h.len; rfl
theorem _root_.Go.Sx.Own.oneC {α : Type} {enc : α → List Value} {sz e : Nat} {v : Value} {xs : List α} {H : Chunk} (h : Own enc sz e v xs H) : oneC v = true := oneC_slice (h.row (hs := []))
/-- images of one's own: each with its chunk -/
abbrev It := Im × Chunk
def itChunk (us : List It) : Chunk := (us.map (·.2)).flatten
theorem itChunk_snoc (us : List It) (u : It) : itChunk (us ++ [u]) = itChunk us ++ u.2 := by unfold itChunk; simp
structure OwnIms (tI tU : Nat) (v : Value) (ts : List Im) (H : Chunk) : Prop where
  is : ∃ us K, us.map (·.1) = ts ∧ (∀ u ∈ us, Own encB 1 tU u.1.v u.1.b u.2) ∧ Own encIm 2 tI v ts K ∧ H = K ++ itChunk us
theorem has_split {A B : Chunk} {hs : List Chunk} {b : Nat} {o : Obj} (h : Has (A :: B :: hs) b o) : Has ((A ++ B) :: hs) b o :=
  Has.of_mem (by have := h.mem; simpa using this)
theorem has_in {us : List It} {u : It} (hu : u ∈ us) {hs : List Chunk} {b : Nat} {o : Obj} (h : Has [u.2] b o) : Has (itChunk us :: hs) b o := by
  refine .here ?_
  have hm := h.mem
  simp only [List.flatten_cons, List.flatten_nil, List.append_nil] at hm
  unfold itChunk
  exact List.mem_flatten.2 ⟨u.2, List.mem_map.2 ⟨u, hu, rfl⟩, hm⟩
theorem has_one_there {A : Chunk} {hs : List Chunk} {b : Nat} {o : Obj} (h : Has [A] b o) : Has (A :: hs) b o := Has.of_mem (by have := h.mem; simp at this; simp [this])
theorem OwnIms.at {tI tU : Nat} {v : Value} {ts : List Im} {H : Chunk} (h : OwnIms tI tU v ts H) (hf : ts.length ≤ 9223372036854775807) (hl : ∀ t ∈ ts, t.b.length ≤ 9223372036854775807) {hs : List Chunk} : ImsAt (H :: hs) v ts := by
  obtain ⟨us, K, rfl, h2, h3, rfl⟩ := h.is
  refine ⟨(h3.row (hs := [])).mono fun b o hb => has_split (has_one_there hb), fun t ht => ?_, hf, hl⟩
  obtain ⟨u, hu, rfl⟩ := List.mem_map.1 ht
  exact ((h2 u hu).row (hs := [])).mono fun b o hb => has_split (.there (has_in hu hb))
structure Raw where
  no : Int
  v : Value
  b : List UInt8
  odd : Bool
def encRaw (x : Raw) : List Value := [.int .i64 x.no, x.v, .bool x.odd]
structure RawsAt (hs : List Chunk) (v : Value) (ts : List Raw) : Prop where
  row : Row encRaw 3 hs v ts
  each : ∀ t ∈ ts, Row encB 1 hs t.v t.b
  few : ts.length ≤ 9223372036854775807
theorem RawsAt.mono {hs hs' : List Chunk} {v : Value} {ts : List Raw} (h : RawsAt hs v ts) (hh : ∀ b o, Has hs b o → Has hs' b o) : RawsAt hs' v ts := ⟨h.row.mono hh, fun t ht => (h.each t ht).mono hh, h.few⟩
theorem RawsAt.there {A : Chunk} {hs : List Chunk} {v : Value} {ts : List Raw} (h : RawsAt hs v ts) : RawsAt (A :: hs) v ts := h.mono fun _ _ => .there
/-- an operation on a core, as a law is handed it -/
structure COp where
  kind : Int
  no : Int
  v : Value
  l : List Raw
  k : Value
  keep : List Bool
structure COpAt (hs : List Chunk) (o : COp) : Prop where
  kind : -9223372036854775808 ≤ o.kind ∧ o.kind ≤ 9223372036854775807
  no : -9223372036854775808 ≤ o.no ∧ o.no ≤ 9223372036854775807
  raws : RawsAt hs o.v o.l
  keep : Row encBool 1 hs o.k o.keep
/-- images: a slice of one's own, the bytes in a chunk beside it or ahead of the call -/
structure MixAt (tI : Nat) (hs : List Chunk) (v : Value) (l : List Img) (K E : Chunk) : Prop where
  is : ∃ ts, imgs ts = l ∧ Own encIm 2 tI v ts K ∧ ∀ t ∈ ts, Row encB 1 (E :: hs) t.v t.b
theorem Row.more {α : Type} {enc : α → List Value} {sz : Nat} {A B : Chunk} {hs : List Chunk} {v : Value} {xs : List α} (h : Row enc sz (A :: hs) v xs) : Row enc sz ((A ++ B) :: hs) v xs :=
  h.mono fun b o hb => Has.of_mem (by have := hb.mem; simp only [List.flatten_cons, List.mem_append] at this ⊢; rcases this with h | h; exact .inl (.inl h); exact .inr h)
theorem Has.sel {hs hs' : List Chunk} (h : Sel hs' hs) {b : Nat} {o : Obj} (hb : Has hs b o) : Has hs' b o := by
  obtain ⟨rest, hp⟩ := h.perm
  exact Has.of_mem (hp.mem_iff.2 (List.mem_append_left _ hb.mem))

/-! ### all pages as strings -/
end Go.Pl
end

section
namespace Go.Pl
open Go Go.Sx

def mayUse (no : Int) : Prop := 2 ≤ no ∧ no < 32
instance (no : Int) : Decidable (mayUse no) := inferInstanceAs (Decidable (_ ∧ _))
/-- is a page in use, by the page that says it -/
def hasB (bs : List UInt8) (no : Int) : Bool := decide (mayUse no) && decide ((bs.getD (no.toNat / 8) 0).toNat / 2 ^ (no.toNat % 8) % 2 = 1)
def pgOf (Q : Pages) (no : Int) : Int × List UInt8 := if mayPage no then (0, Q no) else (3, [])
abbrev Chg := Int → Option (List UInt8)
def updO (c : Chg) (no : Int) (b : List UInt8) : Chg := fun k => if k = no then some b else c k
/-- a page that has to have its length -/
def whole256 (x : Int × List UInt8) : Int × List UInt8 := if x.1 ≠ 0 then (x.1, []) else if x.2.length ≠ 256 then (1, []) else x
end Go.Pl
end

section
namespace Go.Pl
open Go Go.Sx

/-- a slice in a book: none (a page of noughts), or a page -/
def Slot (hs : List Chunk) (v : Value) (bs : List UInt8) : Prop := (v = .slice none 0 0 ∧ bs = noughts 256) ∨ (∃ a n c, v = .slice (some a) n c ∧ Row encB 1 hs v bs ∧ bs.length = 256)
theorem Slot.mono {hs hs' : List Chunk} {v : Value} {bs : List UInt8} (h : Slot hs v bs) (hh : ∀ b o, Has hs b o → Has hs' b o) : Slot hs' v bs := by
  rcases h with h | ⟨a, n, c, h1, h2, h3⟩
  · exact .inl h
  · exact .inr ⟨a, n, c, h1, h2.mono hh, h3⟩
theorem Slot.len {hs : List Chunk} {v : Value} {bs : List UInt8} (h : Slot hs v bs) : bs.length = 256 := by
  rcases h with ⟨_, h⟩ | ⟨_, _, _, _, _, h⟩
  · rw [h]; exact noughts_length 256
  · exact h
theorem Slot.oneC {hs : List Chunk} {v : Value} {bs : List UInt8} (h : Slot hs v bs) : oneC v = true := by
  rcases h with ⟨h, _⟩ | ⟨_, _, _, h, _, _⟩ <;> rw [h] <;> rfl
theorem Slot.of_row {hs : List Chunk} {v : Value} {bs : List UInt8} (h : Row encB 1 hs v bs) (hl : bs.length = 256) : Slot hs v bs := by
  obtain ⟨a, c, e⟩ := h.len
  cases a with
  | none => subst e; rw [h.of_none] at hl; cases hl
  | some a => exact .inr ⟨a, _, c, e, h, hl⟩
theorem Slot.slice {hs : List Chunk} {v : Value} {bs : List UInt8} (h : Slot hs v bs) : ∃ p n c, v = .slice p n c ∧ (p.isNone = true → bs = noughts 256) ∧ (p.isNone = false → Row encB 1 hs v bs) := by
  rcases h with ⟨rfl, h⟩ | ⟨a, n, c, rfl, h, _⟩
  · exact ⟨_, _, _, rfl, fun _ => h, fun h => by cases h⟩
  · exact ⟨_, _, _, rfl, fun h => (by cases h), fun _ => h⟩
structure Slots (hs : List Chunk) (vs : List Value) (Q : Pages) : Prop where
  len : vs.length = 96
  at_ : ∀ k : Nat, k < 96 → ∃ v, vs[k]? = some v ∧ Slot hs v (Q (k : Nat))
theorem Slots.mono {hs hs' : List Chunk} {vs : List Value} {Q : Pages} (h : Slots hs vs Q) (hh : ∀ b o, Has hs b o → Has hs' b o) : Slots hs' vs Q :=
  ⟨h.len, fun k hk => by obtain ⟨v, h1, h2⟩ := h.at_ k hk; exact ⟨v, h1, h2.mono hh⟩⟩
theorem Slots.zero (hs : List Chunk) : Slots hs (List.replicate 96 (.slice none 0 0)) (fun _ => noughts 256) :=
  ⟨by simp, fun k hk => ⟨.slice none 0 0, by rw [List.getElem?_replicate, if_pos hk], .inl ⟨rfl, rfl⟩⟩⟩
theorem Slots.put {hs : List Chunk} {vs : List Value} {Q : Pages} (h : Slots hs vs Q) {k : Nat} (hk : k < 96) {v : Value} {bs : List UInt8} (hv : Slot hs v bs) : Slots hs (vs.set k v) (upd Q (k : Nat) bs) := by
  refine ⟨by rw [List.length_set]; exact h.len, fun j hj => ?_⟩
  by_cases e : k = j
  · subst e; exact ⟨v, List.getElem?_set_self (by rw [h.len]; exact hk), by unfold upd; rw [if_pos rfl]; exact hv⟩
  · obtain ⟨w, h1, h2⟩ := h.at_ j hj
    exact ⟨w, by rw [List.getElem?_set_ne e]; exact h1, by unfold upd; rw [if_neg (by omega)]; exact h2⟩
theorem Slots.long {hs : List Chunk} {vs : List Value} {Q : Pages} (h : Slots hs vs Q) : ∀ no, mayPage no → (Q no).length = 256 := fun no hn => by
  unfold mayPage at hn
  obtain ⟨v, _, h2⟩ := h.at_ no.toNat (by omega)
  rw [show ((no.toNat : Nat) : Int) = no by omega] at h2
  exact h2.len
/-- the struct of a book: its slices, none that can't be read -/
def bkCells (vs : List Value) : List Value := vs ++ [.int .i64 0]
theorem bk_at {vs : List Value} (h : vs.length = 96) {k : Nat} {v : Value} (hv : vs[k]? = some v) {o : Nat} (ho : o = k) : (bkCells vs)[o]? = some v := by
  subst ho; unfold bkCells
  rw [List.getElem?_append_left (List.getElem?_eq_some_iff.1 hv).1]; exact hv
theorem bk_bad {vs : List Value} (h : vs.length = 96) : (bkCells vs)[96]? = some (.int .i64 0) := by
  unfold bkCells; rw [List.getElem?_append_right (by omega), h]; rfl
/-- a book at b: its pages are Q -/
structure BkAt (tB : Nat) (b : Nat) (Q : Pages) (H : Chunk) : Prop where
  is : ∃ vs G, Slots [G] vs Q ∧ H = [(b, blk (bkCells vs) tB (0, 0))] ++ G
theorem BkAt.long {tB b : Nat} {Q : Pages} {H : Chunk} (h : BkAt tB b Q H) : ∀ no, mayPage no → (Q no).length = 256 := by
  obtain ⟨vs, G, hs, _⟩ := h.is; exact hs.long
theorem BkAt.eq {tB b : Nat} {Q Q' : Pages} {H : Chunk} (h : BkAt tB b Q H) (e : EqP Q Q') : BkAt tB b Q' H := by
  obtain ⟨vs, G, hs, hH⟩ := h.is
  refine ⟨vs, G, ⟨hs.len, fun k hk => ?_⟩, hH⟩
  obtain ⟨v, h1, h2⟩ := hs.at_ k hk
  exact ⟨v, h1, by rw [← e (k : Nat) ⟨by omega, by omega⟩]; exact h2⟩
theorem has_left {A B : Chunk} {b : Nat} {o : Obj} (h : Has [A] b o) : Has [A ++ B] b o := Has.of_mem (by have := h.mem; simp only [List.flatten_cons, List.flatten_nil, List.append_nil, List.mem_append] at this ⊢; exact .inl this)
theorem has_right {A B : Chunk} {b : Nat} {o : Obj} (h : Has [B] b o) : Has [A ++ B] b o := Has.of_mem (by have := h.mem; simp only [List.flatten_cons, List.flatten_nil, List.append_nil, List.mem_append] at this ⊢; exact .inr this)
/-- one page more, its slice by itself -/
theorem Slots.grow {G K : Chunk} {vs : List Value} {Q : Pages} (h : Slots [G] vs Q) {k : Nat} (hk : k < 96) {v : Value} {bs : List UInt8} {e : Nat} (ho : Own encB 1 e v bs K) (hl : bs.length = 256) : Slots [G ++ K] (vs.set k v) (upd Q (k : Nat) bs) :=
  (h.mono fun _ _ => has_left).put hk (Slot.of_row ((ho.row (hs := [])).mono fun _ _ => has_right) hl)
theorem BkAt.one {tB b : Nat} {vs : List Value} {Q : Pages} {G : Chunk} (h : Slots [G] vs Q) : BkAt tB b Q ([(b, blk (bkCells vs) tB (0, 0))] ++ G) := ⟨vs, G, h, rfl⟩
section
variable [Outer] {X : Cx} {k : Kont} {R : Reg} {hs : List Chunk} {ops : Array Oper} {l : List Oper} {d ty' : Nat} {pos : String} {after : Array Edge} {gd : Option (Nat × Bool)}
end
end Go.Pl
end

section
namespace Go.Sx
open Go
/-- what has pages, or has failed for good -/
def St (I : Chunk → Prop) (E : Int → Chunk → Prop) : Bool → Chunk → Prop
  | false, H => I H
  | true, H => ∃ e, E e H
/-- what Page told, x being what there is to tell -/
structure PgR (x : Int × List UInt8) (bd bd' : Bool) (e : Int) (bs : List UInt8) : Prop where
  stay : bd = true → bd' = true
  len : e = 0 → bs.length ≤ 4096
  good : bd' = false → e = x.1 ∧ (e = 0 → bs = x.2) ∧ (e ≠ 0 → bs = [])
  fail : bd = false → bd' = true → e ≠ 0 ∧ bs = []
section
variable [Outer]
structure PgsA (P : Program) (u8 : Nat) (v : Value) (I : Chunk → Prop) (E : Int → Chunk → Prop) (pg : Int → Int × List UInt8) : Prop where
  is : ∃ t u f rv, v = .iface t u ∧ (∀ w, (method (P.types.size + Made.depth) t u "Page").run P w = .ok (f, rv) w) ∧ (∀ args w, (callFunc f args).run P w = .ok (.enter f args) w) ∧
    ∀ (bd : Bool) (no : Int) (H : Chunk) (r : List Chunk), -9223372036854775808 ≤ no → no ≤ 9223372036854775807 → St I E bd H → Fun P f [rv, .int .i64 no] (H :: r) fun v' hs' => ∃ bd' H' K w e bs, hs' = H' :: K :: r ∧ v' = .tuple ⟨[w, .int .i64 e]⟩ ∧ Own encB 1 u8 w bs K ∧ St I E bd' H' ∧ PgR (pg no) bd bd' e bs
theorem PgsA.pgs {P : Program} {u8 : Nat} {v : Value} {I : Chunk → Prop} {E : Int → Chunk → Prop} {pg : Int → Int × List UInt8} (h : PgsA P u8 v I E pg) : Pgs P u8 v I (fun _ H => ∃ e, E e H) pg := by
  obtain ⟨t, u, f, rv, h1, h2, h3, h4⟩ := h.is
  refine ⟨t, u, f, rv, h1, h2, h3, fun no H r a b hI => (h4 false no H r a b hI).mono ?_⟩
  rintro v' hs' ⟨bd', H', K, w, e, bs, rfl, rfl, ho, hs, hr⟩
  refine ⟨H', K, w, e, bs, rfl, rfl, ho, ?_⟩
  cases bd' with
  | true => obtain ⟨h5, h6⟩ := hr.fail rfl rfl; exact .inr ⟨h5, h6, .inr hs⟩
  | false =>
    obtain ⟨h5, h6, h7⟩ := hr.good rfl
    by_cases he : e = 0
    · exact .inl ⟨he, by rw [h6 he, ← he, h5], hs⟩
    · exact .inr ⟨he, h7 he, .inl ⟨h5.symm, hs⟩⟩
/-- what never fails -/
theorem PgsA.of {P : Program} {u8 : Nat} {v : Value} {I : Chunk → Prop} {pg : Int → Int × List UInt8} (hl : ∀ no, (pg no).2.length ≤ 4096) (h : Pgs P u8 v I (fun _ _ => False) pg) : PgsA P u8 v I (fun _ _ => False) pg := by
  obtain ⟨t, u, f, rv, h1, h2, h3, h4⟩ := h.is
  refine ⟨t, u, f, rv, h1, h2, h3, fun bd no H r a b hI => ?_⟩
  cases bd with
  | true => obtain ⟨_, h⟩ := hI; exact h.elim
  | false =>
    refine (h4 no H r a b hI).mono ?_
    rintro v' hs' ⟨H', K, w, e, bs, rfl, rfl, ho, hr⟩
    refine ⟨false, H', K, w, e, bs, rfl, rfl, ho, ?_⟩
    rcases hr with ⟨rfl, h5, h6⟩ | ⟨h5, rfl, ⟨h6, h7⟩ | h6⟩
    · exact ⟨h6, ⟨fun h => (by cases h), fun _ => (by have := hl no; rw [h5] at this; exact this), fun _ => ⟨by rw [h5], fun _ => by rw [h5], fun h => absurd rfl h⟩, fun _ h => (by cases h)⟩⟩
    · exact ⟨h7, ⟨fun h => (by cases h), fun _ => (by simp), fun _ => ⟨h6.symm, fun h => absurd h h5, fun _ => rfl⟩, fun _ h => (by cases h)⟩⟩
    · exact h6.elim
theorem PgsA.iface {P : Program} {u8 : Nat} {v : Value} {I : Chunk → Prop} {E : Int → Chunk → Prop} {pg : Int → Int × List UInt8} (h : PgsA P u8 v I E pg) : ∃ t u, v = .iface t u := by obtain ⟨t, u, _, _, h, _⟩ := h.is; exact ⟨t, u, h⟩
variable {X : Cx} {k : Kont} {R : Reg} {hs : List Chunk} {ops : Array Oper} {l : List Oper} {d ty' : Nat} {pos : String} {after : Array Edge} {gd : Option (Nat × Bool)}
theorem OT.pageA {x : Operand} {xs : Array Operand} {tys : Array Nat} {v : Value} {u8 : Nat} {I : Chunk → Prop} {E : Int → Chunk → Prop} {pg : Int → Int × List UInt8} {bd : Bool} {no : Int} {H : Chunk} {r : List Chunk} (hP : PgsA X.P u8 v I E pg)
    (hg : grd ops R gd = some true) (hx : ev R x = some v) (hxs : evs R xs.toList = some [.int .i64 no]) (hdn : Nat.ble (d + 1) X.n = true) (hp : Pull hs H r) (hI : St I E bd H) (h1 : -9223372036854775808 ≤ no) (h2 : no ≤ 9223372036854775807)
    (h : ∀ bd' H' K w e bs, Own encB 1 u8 w bs K → St I E bd' H' → PgR (pg no) bd bd' e bs → OT X ops l k ((d, .tuple ⟨[w, .int .i64 e]⟩) :: R) (H' :: K :: r)) : OT X ops (⟨some d, .call ⟨.invoke x "Page", xs, tys⟩, ty', pos, after, gd⟩ :: l) k R hs := by
  obtain ⟨t, u, f, rv, rfl, h3, h4, h5⟩ := hP.is
  refine OT.invoke (fun w _ => h3 w) h4 hg hx hxs hdn ((h5 bd no H r h1 h2 hI).pull hp) ?_
  rintro v' hs' ⟨bd', H', K, w, e, bs, rfl, rfl, ho, hs, hr⟩
  exact h bd' H' K w e bs ho hs hr
/-- []byte(s) -/
theorem OT.conv_sb {T : Tab} {s t' e : Nat} {x : Operand} {xs : List UInt8} (hT : T.ok X.P) (hs' : ty T s = some (.one .string)) (ht : ty T t' = some (.slice e 1)) (he : ty T e = some (.one (.int .u8)))
    (hg : grd ops R gd = some true) (hx : ev R x = some (.string ⟨⟨xs⟩⟩)) (hdn : Nat.ble (d + 1) X.n = true)
    (h : ∀ v' H', Own encB 1 e v' xs H' → OT X ops l k ((d, v') :: R) (H' :: hs)) : OT X ops (⟨some d, .convert s t' x, ty', pos, after, gd⟩ :: l) k R hs := by
  refine OT.value hg rfl hdn fun a w ha hm => ?_
  have hr := run_bytes_of_string (P := X.P) w s t' e ⟨⟨xs⟩⟩ (hT.ty hs').1 (hT.ty ht).1 (hT.ty he).1
  have hsz : (⟨⟨xs⟩⟩ : ByteArray).size = xs.length := rfl
  rw [hsz] at hr
  have hge := grownCap_ge w xs.length 0 e
  have em : ∀ l : List UInt8, l.map (fun b => Value.int .u8 b.toNat) = l.flatMap encB := fun l => by
    induction l with
    | nil => rfl
    | cons c l ih => rw [List.map_cons, ih]; rfl
  generalize grownCap w xs.length 0 e = cap at hr hge
  have hcs : bytesRow ⟨⟨xs⟩⟩ cap = ⟨xs.flatMap encB ++ List.replicate (cap - xs.length) (.int .u8 0)⟩ := by
    unfold bytesRow
    apply Array.ext'
    rw [Array.toList_append, Array.toList_map, Array.toList_replicate, hsz]
    congr 1
    exact em xs
  rw [hcs] at hr
  refine ⟨_, _, _, ?_, hm.drewN.alloc (blk (xs.flatMap encB ++ List.replicate (cap - xs.length) (Value.int .u8 0)) e ((xs.flatMap encB ++ List.replicate (cap - xs.length) (Value.int .u8 0)).length, (xs.flatMap encB ++ List.replicate (cap - xs.length) (Value.int .u8 0)).length + 1)), h (.slice (some ⟨w.heap.size, 0, none⟩) xs.length cap) _ ?_⟩
  · simp only [execOp, ha.ev hx]
    rw [Sem.run_bind, hr]
    rfl
  · exact ⟨fun _ _ => rfl, .inr ⟨w.heap.size, cap, [], List.replicate (cap - xs.length) (.int .u8 0), _, rfl, by rw [List.nil_append], hge, by simp, .inr (by rw [List.nil_append]; exact Nat.le_refl _)⟩⟩
end
end Go.Sx
namespace Go.Pl
open Go Go.Sx

def layC (Q : Pages) (m : Chg) : Pages := fun no => (m no).getD (Q no)
theorem layC_none (Q : Pages) : layC Q (fun _ => none) = Q := rfl
theorem layC_upd (Q : Pages) (m : Chg) (no : Int) (b : List UInt8) : layC Q (updO m no b) = upd (layC Q m) no b := by
  funext k; unfold layC updO upd
  by_cases h : k = no
  · rw [if_pos h, if_pos h]; rfl
  · rw [if_neg h, if_neg h]
def MayChg (m : Chg) : Prop := ∀ no x, m no = some x → mayPage no ∧ x.length = 256
theorem MayChg.none : MayChg fun _ => none := fun _ _ h => by cases h
theorem MayChg.upd {m : Chg} (h : MayChg m) {no : Int} {b : List UInt8} (h1 : mayPage no) (h2 : b.length = 256) : MayChg (updO m no b) := by
  intro k x hk
  unfold updO at hk
  split at hk
  · rename_i e; injection hk with hk; subst hk e; exact ⟨h1, h2⟩
  · exact h k x hk
/-- pages of 256 bytes -/
def Long (Q : Pages) : Prop := ∀ no, mayPage no → (Q no).length = 256
theorem Long.lay {Q : Pages} (h : Long Q) {m : Chg} (hm : MayChg m) : Long (layC Q m) := by
  intro no hn
  unfold layC
  cases hx : m no with
  | none => exact h no hn
  | some x => exact (hm no x hx).2
theorem Long.upd {Q : Pages} (h : Long Q) {no : Int} {b : List UInt8} (h2 : b.length = 256) : Long (upd Q no b) := by
  intro k hk; unfold Go.Pl.upd; split
  · exact h2
  · exact h k hk
def strM (m : Chg) : Int → Option Value := fun z => (m z).map fun x => .string (txt x)
theorem strM_upd (m : Chg) (no : Int) (b : List UInt8) : (fun z' => if z' = no then some (Value.string (txt b)) else strM m z') = strM (updO m no b) := by
  funext z; unfold strM updO
  by_cases h : z = no
  · rw [if_pos h, if_pos h]; rfl
  · rw [if_neg h, if_neg h]
theorem strM_in {m : Chg} (h : MayChg m) : ∀ z, strM m z ≠ none → 0 ≤ z ∧ z < (96 : Nat) := by
  intro z hz
  unfold strM at hz
  cases hm : m z with
  | none => rw [hm] at hz; exact absurd rfl hz
  | some x => have := (h z x hm).1; unfold mayPage at this; omega
/-- what is changed -/
def chgs (Qb Qt : Pages) (n : Nat) : List Img := ((List.range n).map fun k : Nat => (k : Int)).filterMap fun no => if Qt no = Qb no then none else some (no, Qt no)
theorem chgs_keys (Qb : Pages) (m : Chg) (n : Nat) : (keysTo (strM m) n).filterMap (fun no => if layC Qb m no = Qb no then none else some (no, layC Qb m no)) = chgs Qb (layC Qb m) n := by
  unfold keysTo chgs
  rw [List.filterMap_filter]
  congr 1
  funext no
  unfold strM
  cases h : m no with
  | none => simp only [Option.map_none, Option.isSome_none]; rw [if_neg (by simp), if_pos (by unfold layC; rw [h]; rfl)]
  | some x => simp only [Option.map_some, Option.isSome_some, if_true]
/-- a sheet at b: below it v, of which J holds; m is what was changed -/
structure ShOf (sT b : Nat) (v : Value) (J : Chunk → Prop) (m : Chg) (H : Chunk) : Prop where
  is : ∃ mb M G, H = ([(b, blk [v, .map (some mb)] sT (0, 0))] ++ M) ++ G ∧ IsMap (strM m) mb M ∧ MayChg m ∧ J G
theorem ShOf.may {sT b : Nat} {v : Value} {J : Chunk → Prop} {m : Chg} {H : Chunk} (h : ShOf sT b v J m H) : MayChg m := by obtain ⟨_, _, _, _, _, h, _⟩ := h.is; exact h
theorem ShOf.mono {sT b : Nat} {v : Value} {J J' : Chunk → Prop} {m : Chg} {H : Chunk} (h : ShOf sT b v J m H) (hj : ∀ G, J G → J' G) : ShOf sT b v J' m H := by
  obtain ⟨mb, M, G, h1, h2, h3, h4⟩ := h.is; exact ⟨mb, M, G, h1, h2, h3, hj G h4⟩
/-- a sheet whose pages are Qt, above pages Qb -/
def ShAt (sT b : Nat) (v : Value) (I : Chunk → Prop) (Qb Qt : Pages) (H : Chunk) : Prop := ∃ m, ShOf sT b v I m H ∧ Qt = layC Qb m
/-- a sheet above what has failed -/
def ShBad (sT b : Nat) (v : Value) (E : Int → Chunk → Prop) (_ : Int) (H : Chunk) : Prop := ∃ m, ShOf sT b v (fun G => ∃ e, E e G) m H
theorem ShAt.long {sT b : Nat} {v : Value} {I : Chunk → Prop} {Qb Qt : Pages} {H : Chunk} (h : ShAt sT b v I Qb Qt H) (hQ : Long Qb) : Long Qt := by
  obtain ⟨m, h1, rfl⟩ := h; exact hQ.lay h1.may
theorem keys_few (m : Chg) : (keysTo (strM m) 96).length ≤ 96 := by
  unfold keysTo
  refine Nat.le_trans (List.length_filter_le _ _) ?_
  rw [List.length_map, List.length_range]; exact Nat.le_refl _
theorem key_at {m : Chg} (h : MayChg m) {i : Nat} {no : Int} (hi : (keysTo (strM m) 96)[i]? = some no) : ∃ x, m no = some x ∧ mayPage no := by
  have h1 := List.mem_of_getElem? hi
  unfold keysTo at h1
  obtain ⟨_, h2⟩ := List.mem_filter.1 h1
  unfold strM at h2
  cases hx : m no with
  | none => rw [hx] at h2; cases h2
  | some x => exact ⟨x, rfl, (h no x hx).1⟩
theorem bd_back {x : Int × List UInt8} {bd bd' : Bool} {e : Int} {bs : List UInt8} (h : PgR x bd bd' e bs) (hb : bd' = false) : bd = false := by
  cases bd with
  | false => rfl
  | true => rw [h.stay rfl] at hb; cases hb
theorem txt_eq2 {a b : List UInt8} (h : (!decide ((⟨⟨a⟩⟩ : ByteArray) = ⟨⟨b⟩⟩)) = false) : b = a := by
  rw [Bool.not_eq_false', decide_eq_true_eq] at h
  injection h with h; injection h with h; exact h.symm
theorem txt_ne2 {a b : List UInt8} (h : (!decide ((⟨⟨a⟩⟩ : ByteArray) = ⟨⟨b⟩⟩)) = true) : b ≠ a := by
  rw [Bool.not_eq_true', decide_eq_false_iff_not] at h
  intro e; exact h (by rw [e])
theorem keep_same {Qb : Pages} {m : Chg} {no : Int} (h : layC Qb m no = Qb no) : [no].filterMap (fun no => if layC Qb m no = Qb no then none else some (no, layC Qb m no)) = [] := by
  simp [h]
theorem keep_new {Qb : Pages} {m : Chg} {no : Int} {v : Value} {x : List UInt8} (h : layC Qb m no ≠ Qb no) (hx : layC Qb m no = x) : [no].filterMap (fun no => if layC Qb m no = Qb no then none else some (no, layC Qb m no)) = imgs [⟨no, v, x⟩] := by
  show List.filterMap _ [no] = [(no, x)]
  rw [List.filterMap_cons, if_neg h, hx]; rfl
theorem own_snoc {tU : Nat} {us : List It} (h : ∀ u ∈ us, Own encB 1 tU u.1.v u.1.b u.2) {no : Int} {v : Value} {x : List UInt8} {K : Chunk} (ho : Own encB 1 tU v x K) : ∀ u ∈ us ++ [((⟨no, v, x⟩ : Im), K)], Own encB 1 tU u.1.v u.1.b u.2 := by
  intro u hu
  rcases List.mem_append.1 hu with hu | hu
  · exact h u hu
  · rw [List.mem_singleton] at hu; subst hu; exact ho
theorem may_snoc {us : List It} (h : ∀ x ∈ imgs (us.map (·.1)), mayPage x.1 ∧ x.2.length = 256) {no : Int} {v : Value} {x : List UInt8} {K : Chunk} (h1 : mayPage no) (h2 : x.length = 256) : ∀ y ∈ imgs ((us ++ [((⟨no, v, x⟩ : Im), K)]).map (·.1)), mayPage y.1 ∧ y.2.length = 256 := by
  intro y hy
  rw [List.map_append, imgs_append] at hy
  rcases List.mem_append.1 hy with hy | hy
  · exact h y hy
  · simp only [imgs, List.map_cons, List.map_nil, List.mem_singleton] at hy
    subst hy; exact ⟨h1, h2⟩
end Go.Pl
end

section
namespace Go.Pl
open Go Go.Sx

theorem half {p q : Nat} (h : p + q ≤ 4611686018427387904) : IntKind.i64.wrap ((IntKind.u64.wrap (IntKind.i64.wrap ((p : Int) + q))).fdiv (2 ^ min (1 : Int).toNat IntKind.u64.bits)) = (((p + q) / 2 : Nat) : Int) := by
  have e : (2 : Int) ^ min (1 : Int).toNat IntKind.u64.bits = 2 := by decide
  rw [e, wrap_i64 (n := (p : Int) + q) (by omega) (by omega), wrap_u64 (by omega) (by omega), Int.fdiv_eq_ediv_of_nonneg _ (by omega), wrap_i64 (by omega) (by omega)]
  omega
theorem rising_at {l : List ByteArray} (h : rising l) {i j : Nat} {x y : ByteArray} (hij : i < j) (hx : l[i]? = some x) (hy : l[j]? = some y) : kLt x y = true := by
  obtain ⟨hi, rfl⟩ := List.getElem?_eq_some_iff.1 hx
  obtain ⟨hj, rfl⟩ := List.getElem?_eq_some_iff.1 hy
  exact List.pairwise_iff_getElem.1 h i j hi hj hij
/-- where a key stands: those ahead are less, those from there on are not -/
structure Stands (l : List ByteArray) (k : ByteArray) (i : Nat) : Prop where
  le : i ≤ l.length
  less : ∀ (j : Nat) (x : ByteArray), j < i → l[j]? = some x → kLt x k = true
  rest : ∀ (j : Nat) (x : ByteArray), i ≤ j → l[j]? = some x → kLt x k = false
end Go.Pl
end

section
namespace Go.Sx
open Go
section
variable [Outer] {X : Cx} {T : Tab} {Cs : List Chunk} {R : Reg}
theorem Fl.shl {x y : Operand} {t yt : Nat} {kx ky : IntKind} {a b : Int} (hx : ev R x = some (.int kx a)) (hy : ev R y = some (.int ky b)) (hb : 0 ≤ b) : Fl X T Cs R (.binOp .shl t x y yt) (.int kx (kx.wrap (a * 2 ^ min b.toNat kx.bits))) :=
  .pure (by simp only [pev, hx, hy, bin]; rw [if_neg (by omega)])
theorem Fl.index {x ix : Operand} {t e sz b o n c : Nat} {kk : IntKind} {i : Int} (hT : T.ok X.P) (ht : ty T t = some (.slice e sz)) (hx : ev R x = some (.slice (some ⟨b, o, none⟩) n c)) (hix : ev R ix = some (.int kk i)) (h0 : 0 ≤ i) (h1 : i < n) :
    Fl X T Cs R (.indexAddr t x ix) (.pointer (some ⟨b, o + i.toNat * sz, none⟩)) := by
  refine .det fun op a w hop ha => ?_
  have hu := (hT.ty ht).1
  have hsz := (hT.ty ht).2.1 w
  simp only [execOp, hop, ha.ev hx, ha.ev hix]
  have : (Instr.indexAt t (.slice (some ⟨b, o, none⟩) n c) (.int kk i)).run X.P w = .ok (.pointer (some ⟨b, o + i.toNat * sz, none⟩)) w := by
    simp [Instr.indexAt, asIntOf, run_underlying hu, h0, h1, hsz, addr_add]
  simp [this]
end
end Go.Sx
namespace Go.Pl
open Go Go.Sx

theorem whole_pg {Q : Pages} (h : Long Q) : whole256 (pgOf Q 1) = (0, Q 1) := by
  have h1 : mayPage 1 := by unfold mayPage; omega
  have h2 : pgOf Q 1 = (0, Q 1) := by unfold pgOf; rw [if_pos h1]
  rw [h2]; unfold whole256; rw [if_neg (by simp), if_neg (by have := h 1 h1; dsimp only; omega)]
def rootOf (bs : List UInt8) : Int := ((bs.getD 4 0).toNat : Int)
/-- what Root tells -/
def rootX (x : Int × List UInt8) : Int × Int :=
  let y := whole256 x
  if y.1 ≠ 0 then (0, y.1) else if rootOf y.2 ≠ 0 ∧ ¬ mayUse (rootOf y.2) then (0, 3) else (rootOf y.2, 0)
def setB (bs : List UInt8) (n : Nat) : List UInt8 := bs.set (n / 8) (UInt8.ofNat ((bs.getD (n / 8) 0).toNat ||| 2 ^ (n % 8)))
def clrB (bs : List UInt8) (n : Nat) : List UInt8 := bs.set (n / 8) (UInt8.ofNat ((bs.getD (n / 8) 0).toNat &&& (255 - 2 ^ (n % 8))))
set_option maxRecDepth 100000 in
theorem bits_set : ∀ x : Fin 256, ∀ k : Fin 8, IntKind.u8.wrap ((BitVec.ofInt IntKind.u8.bits ((x.val : Nat) : Int) ||| BitVec.ofInt IntKind.u8.bits (IntKind.u8.wrap (1 * 2 ^ min k.val IntKind.u8.bits))).toNat : Int) = ((UInt8.ofNat (x.val ||| 2 ^ k.val)).toNat : Int) := by decide +kernel
set_option maxRecDepth 100000 in
theorem bits_clr : ∀ x : Fin 256, ∀ k : Fin 8, IntKind.u8.wrap ((BitVec.ofInt IntKind.u8.bits ((x.val : Nat) : Int) &&& ~~~ BitVec.ofInt IntKind.u8.bits (IntKind.u8.wrap (1 * 2 ^ min k.val IntKind.u8.bits))).toNat : Int) = ((UInt8.ofNat (x.val &&& (255 - 2 ^ k.val))).toNat : Int) := by decide +kernel
set_option maxRecDepth 100000 in
theorem bits_got : ∀ x : Fin 256, ∀ k j : Fin 8, (decide ((UInt8.ofNat (x.val ||| 2 ^ k.val)).toNat / 2 ^ j.val % 2 = 1) = (decide (k = j) || decide (x.val / 2 ^ j.val % 2 = 1))) ∧ (decide ((UInt8.ofNat (x.val &&& (255 - 2 ^ k.val))).toNat / 2 ^ j.val % 2 = 1) = (!decide (k = j) && decide (x.val / 2 ^ j.val % 2 = 1))) := by decide +kernel
theorem setB_len (bs : List UInt8) (n : Nat) : (setB bs n).length = bs.length := List.length_set
theorem clrB_len (bs : List UInt8) (n : Nat) : (clrB bs n).length = bs.length := List.length_set
theorem getD_set {bs : List UInt8} {i j : Nat} {c : UInt8} (hi : i < bs.length) : (bs.set i c).getD j 0 = if i = j then c else bs.getD j 0 := by
  rw [List.getD_eq_getElem?_getD, List.getD_eq_getElem?_getD]
  by_cases h : i = j
  · subst h; rw [if_pos rfl, List.getElem?_set_self hi]; rfl
  · rw [if_neg h, List.getElem?_set_ne h]
theorem hasB_set {bs : List UInt8} (hl : bs.length = 256) {n : Nat} (hn : n < 32) (m : Nat) : hasB (setB bs n) (m : Nat) = (decide (mayUse (m : Nat)) && decide (n = m) || hasB bs (m : Nat)) := by
  unfold hasB setB
  rw [Int.toNat_natCast, getD_set (by omega)]
  cases hm : decide (mayUse ((m : Nat) : Int)) with
  | false => simp
  | true =>
    rw [Bool.true_and, Bool.true_and, Bool.true_and]
    by_cases h : n / 8 = m / 8
    · rw [if_pos h, h]
      have := (bits_got ⟨(bs.getD (m / 8) 0).toNat, UInt8.toNat_lt _⟩ ⟨n % 8, Nat.mod_lt _ (by decide)⟩ ⟨m % 8, Nat.mod_lt _ (by decide)⟩).1
      dsimp only at this
      rw [this]
      congr 1
      refine decide_eq_decide.2 ?_
      rw [Fin.mk.injEq]; omega
    · rw [if_neg h, decide_eq_false (fun e : n = m => h (by rw [e])), Bool.false_or]
theorem hasB_clr {bs : List UInt8} (hl : bs.length = 256) {n : Nat} (hn : n < 32) (m : Nat) : hasB (clrB bs n) (m : Nat) = (!decide (n = m) && hasB bs (m : Nat)) := by
  unfold hasB clrB
  rw [Int.toNat_natCast, getD_set (by omega)]
  cases hm : decide (mayUse ((m : Nat) : Int)) with
  | false => simp
  | true =>
    rw [Bool.true_and, Bool.true_and]
    by_cases h : n / 8 = m / 8
    · rw [if_pos h, h]
      have := (bits_got ⟨(bs.getD (m / 8) 0).toNat, UInt8.toNat_lt _⟩ ⟨n % 8, Nat.mod_lt _ (by decide)⟩ ⟨m % 8, Nat.mod_lt _ (by decide)⟩).2
      dsimp only at this
      rw [this]
      congr 1
      congr 1
      refine decide_eq_decide.2 ?_
      rw [Fin.mk.injEq]; omega
    · rw [if_neg h, decide_eq_false (fun e : n = m => h (by rw [e])), Bool.not_false, Bool.true_and]
/-- the first page that is free -/
def takeB (bs : List UInt8) : Option Nat := (List.range' 2 30).find? fun n => !hasB bs (n : Nat)
def takeTo (bs : List UInt8) (n : Nat) : Prop := ∀ k : Nat, 2 ≤ k → k < n → hasB bs (k : Nat) = true
theorem takeB_some {bs : List UInt8} {n : Nat} (h1 : 2 ≤ n) (h2 : n < 32) (h : takeTo bs n) (hn : hasB bs (n : Nat) = false) : takeB bs = some n := by
  unfold takeB
  rw [List.find?_eq_some_iff_append]
  refine ⟨by rw [hn]; rfl, List.range' 2 (n - 2), List.range' (n + 1) (31 - n), ?_, fun a ha => ?_⟩
  · have e1 : List.range' 2 30 = List.range' 2 (n - 2) ++ List.range' n (32 - n) := by
      have := List.range'_append (s := 2) (m := n - 2) (n := 32 - n) (step := 1)
      rw [Nat.one_mul, show 2 + (n - 2) = n by omega, show n - 2 + (32 - n) = 30 by omega] at this
      exact this.symm
    rw [e1]; congr 1
    rw [show 32 - n = (31 - n) + 1 by omega, List.range'_succ]
  · obtain ⟨h3, h4⟩ := List.mem_range'_1.1 ha
    rw [h a h3 (by omega)]; rfl
theorem takeB_none {bs : List UInt8} (h : takeTo bs 32) : takeB bs = none := by
  unfold takeB
  rw [List.find?_eq_none]
  intro a ha
  obtain ⟨h3, h4⟩ := List.mem_range'_1.1 ha
  rw [h a h3 (by omega)]; simp
theorem takeB_is {bs : List UInt8} {n : Nat} (h : takeB bs = some n) : 2 ≤ n ∧ n < 32 ∧ hasB bs (n : Nat) = false := by
  unfold takeB at h
  have h1 := List.mem_of_find?_eq_some h
  have h2 := List.find?_some h
  obtain ⟨h3, h4⟩ := List.mem_range'_1.1 h1
  exact ⟨h3, by omega, by simpa using h2⟩
theorem q8 {n : Nat} (h : n < 32) : IntKind.i64.wrap ((n : Int).tdiv 8) = ((n / 8 : Nat) : Int) := by rw [Int.tdiv_eq_ediv_of_nonneg (by omega), wrap_i64 (by omega) (by omega)]; omega
theorem r8 (n : Nat) : (n : Int).tmod 8 = ((n % 8 : Nat) : Int) := by rw [Int.tmod_eq_emod_of_nonneg (by omega)]; omega
theorem set_is {bs : List UInt8} {n : Nat} {c : UInt8} (h : bs[n / 8]? = some c) : bs.set (n / 8) (UInt8.ofNat (c.toNat ||| 2 ^ (n % 8))) = setB bs n := by
  unfold setB; rw [List.getD_eq_getElem?_getD, h]; rfl
theorem clr_is {bs : List UInt8} {n : Nat} {c : UInt8} (h : bs[n / 8]? = some c) : bs.set (n / 8) (UInt8.ofNat (c.toNat &&& (255 - 2 ^ (n % 8)))) = clrB bs n := by
  unfold clrB; rw [List.getD_eq_getElem?_getD, h]; rfl
theorem or_cell (c : UInt8) (n : Nat) : splice (encB c) 0 [.int .u8 (IntKind.u8.wrap ((BitVec.ofInt IntKind.u8.bits (c.toNat : Int) ||| BitVec.ofInt IntKind.u8.bits (IntKind.u8.wrap (1 * 2 ^ min ((n % 8 : Nat) : Int).toNat IntKind.u8.bits))).toNat : Int))] = encB (UInt8.ofNat (c.toNat ||| 2 ^ (n % 8))) :=
  congrArg (fun z => [Value.int .u8 z]) (bits_set ⟨c.toNat, c.toNat_lt⟩ ⟨n % 8, Nat.mod_lt _ (by decide)⟩)
theorem and_cell (c : UInt8) (n : Nat) : splice (encB c) 0 [.int .u8 (IntKind.u8.wrap ((BitVec.ofInt IntKind.u8.bits (c.toNat : Int) &&& ~~~ BitVec.ofInt IntKind.u8.bits (IntKind.u8.wrap (1 * 2 ^ min ((n % 8 : Nat) : Int).toNat IntKind.u8.bits))).toNat : Int))] = encB (UInt8.ofNat (c.toNat &&& (255 - 2 ^ (n % 8)))) :=
  congrArg (fun z => [Value.int .u8 z]) (bits_clr ⟨c.toNat, c.toNat_lt⟩ ⟨n % 8, Nat.mod_lt _ (by decide)⟩)
theorem byte_no {no : Int} (h : 0 ≤ no ∧ no < 32) : IntKind.u8.wrap no = ((UInt8.ofNat no.toNat).toNat : Int) := by
  obtain ⟨n, rfl⟩ : ∃ n : Nat, no = n := ⟨no.toNat, by omega⟩
  rw [Int.toNat_natCast, UInt8.toNat_ofNat']
  simp [IntKind.wrap, IntKind.bits, IntKind.signed]
theorem own_addr {e : Nat} {a : Option Addr} {n c : Nat} {xs : List UInt8} {K : Chunk} (h : Own encB 1 e (.slice a n c) xs K) (hx : 0 < xs.length) : ∃ b o, a = some ⟨b, o, none⟩ := by
  obtain ⟨_, ⟨_, h2, _⟩ | ⟨b, cap, pre, sp, fr, h2, _⟩⟩ := h
  · rw [h2] at hx; cases hx
  · injection h2 with h2; exact ⟨b, _, h2⟩
theorem nth4 {bs : List UInt8} (h : bs.length = 256) : bs[4]? = some (bs.getD 4 0) := by
  rw [List.getD_eq_getElem?_getD, List.getElem?_eq_getElem (by omega)]; rfl
end Go.Pl
end

section
namespace Go.Sx
open Go
section
variable [Outer] {X : Cx} {k : Kont} {R : Reg} {hs : List Chunk} {ops : Array Oper} {l : List Oper} {T : Tab} {d ty' : Nat} {pos : String} {after : Array Edge} {gd : Option (Nat × Bool)} {α : Type} {enc : α → List Value} {sz e t : Nat}
theorem OT.cap {x : Operand} {a : Option Addr} {n c : Nat} (hT : T.ok X.P) (ht : ty T t = some (.slice e sz)) (hg : grd ops R gd = some true) (hx : ev R x = some (.slice a n c)) (hdn : Nat.ble (d + 1) X.n = true)
    (h : OT X ops l k ((d, .int .i64 (c : Nat)) :: R) hs) : OT X ops (⟨some d, .call ⟨.builtin .cap, #[x], #[t]⟩, ty', pos, after, gd⟩ :: l) k R hs := by
  refine OT.value hg rfl hdn fun a w ha hm => ⟨_, hs, w, ?_, hm, h⟩
  have hu := (hT.ty ht).1
  simp [execOp, resolve, ha.ev hx, Go.invoke, Go.builtin, Builtin.cap_, run_underlying hu, goInt]

theorem append_new {P : Program} (he : Elem P t e sz) {v : Value} {xs : List α} (hrow : Row enc sz hs v xs) {w : World} (hm : Mem hs w) {z0 : α} {zv : Value} (hz0 : ∀ w, (zeroValue e).run P w = .ok zv w) (henc : enc z0 = zv.cells.toList) (hsz0 : 0 < sz) {t2 : Nat} {kk kv : IntKind} (ht2 : P.underlying t2 = some (.int kk)) {m : Nat}
    (hb : xs.length + m ≤ 4294967296) {a : Option Addr} {cap : Nat} (hv : v = .slice a xs.length cap) (hroom : ¬ xs.length + m ≤ cap) (ty : Nat) :
    ∃ v' H' w', (Builtin.append_ #[t, t2] ty #[v, .int kv m]).run P w = .ok v' w' ∧ Own enc sz e v' (xs ++ List.replicate m z0) H' ∧ Mem (H' :: hs) w' := by
  obtain ⟨ti, hti, hb1, hb2⟩ := he.info
  obtain ⟨z, hz, hzs⟩ := he.zero
  obtain rfl : z = zv := by have h1 := hz w; rw [hz0 w] at h1; injection h1 with h1 _; exact h1.symm
  have hall : ∀ y ∈ xs ++ List.replicate m z0, (enc y).length = sz := by
    intro y hy
    rcases List.mem_append.1 hy with hy | hy
    · exact hrow.1 y hy
    · rw [List.eq_of_mem_replicate hy, henc, ← hzs, Array.length_toList]
  have hm0 : m * sz ≠ 0 ∨ m = 0 := by
    by_cases h : m = 0
    · exact .inr h
    · exact .inl (Nat.mul_ne_zero h (by omega))
  have hzc : Builtin.zeroCells z.cells m = ⟨(List.replicate m z0).flatMap enc⟩ := zeros_flat henc m
  have hc : cap < xs.length + m := by omega
  have hnx := nextcap_le hc
  have hbig : ¬ (((xs.length + m : Nat) : Int) > IntKind.i64.max) := by
    have : IntKind.i64.max = 9223372036854775807 := by decide
    rw [this]; omega
  have h48 : ¬ (Builtin.nextslicecap (xs.length + m) cap * ti.bytes > 2 ^ 48) := by
    have h1 : Builtin.nextslicecap (xs.length + m) cap * ti.bytes ≤ 8589935104 * 4096 := Nat.mul_le_mul (by omega) hb2
    have : (2 : Nat) ^ 48 = 281474976710656 := by decide
    omega
  have hq : (Question.appendCap (xs.length + m) cap e).forced = false := rfl
  generalize hnc : (Question.appendCap (xs.length + m) cap e).cut (w.tape w.drawn (.appendCap (xs.length + m) cap e)) = nc
  have hncge : xs.length + m ≤ nc := by rw [← hnc]; simp only [Question.cut]; omega
  have hm1 : Mem hs { w with drawn := w.drawn + 1 } := hm.drewN
  have hf := hrow.first (P := P) hm1
  generalize hrest : Builtin.zeroCells z.cells (nc - (xs.length + m)) = rest
  have hrs : rest.toList.length = (nc - (xs.length + m)) * sz := by
    rw [← hrest]; simp [Builtin.zeroCells, hzs]
  have hwrap : IntKind.i64.wrap (m : Int) = (m : Int) := IntWalk.i64_in _ (by omega)
  have hneg : ¬ ((m : Int) < 0) := by omega
  have hbig2 : ¬ ((m : Int) * ti.bytes > 2 ^ 48) := by
    have h1 : m * ti.bytes ≤ 4294967296 * 4096 := Nat.mul_le_mul (by omega) hb2
    have : (2 : Int) ^ 48 = 281474976710656 := by decide
    rw [this]
    have h2 : ((m * ti.bytes : Nat) : Int) ≤ 17592186044416 := by omega
    rw [Int.natCast_mul] at h2
    omega
  refine ⟨.slice (some ⟨w.heap.size, 0, none⟩) (xs.length + m) nc, [(w.heap.size, blk ([] ++ (xs ++ List.replicate m z0).flatMap enc ++ rest.toList) e (0, 0))],
    ({ w with drawn := w.drawn + 1 } : World).alloc (.cells (⟨xs.flatMap enc⟩ ++ ⟨(List.replicate m z0).flatMap enc⟩ ++ rest) e), ?_, ⟨hall, .inr ⟨w.heap.size, nc, [], rest.toList, (0, 0), by simp, rfl, by simpa using hncge, by rw [hrs]; simp, .inl (Nat.le_refl _)⟩⟩, ?_⟩
  · unfold Builtin.append_
    subst hv
    have hroomrun : ∀ n (w : World), (askRoom n).run P w = .ok () w := by intro n w; unfold askRoom; split <;> rfl
    have hwd : w.drew = { w with drawn := w.drawn + 1 } := rfl
    have hcl := hrow.cap_le
    have hms : m ≠ 0 := by omega
    have hms2 : ¬ (m * sz = 0) := hm0.resolve_right hms
    simp only [List.getElem?_toArray, List.getElem?_cons_zero, List.getElem?_cons_succ]
    rw [Sem.run_bind, run_underlying he.und]
    simp only [Result.andThen_ok]
    rw [Sem.run_bind, he.size]
    simp only [Result.andThen_ok]
    rw [Sem.run_bind, run_underlying ht2]
    simp only [Result.andThen_ok, Sem.run_bind, Sem.run_pure, if_true, asInt, asIntOf, hwrap, hneg, if_false, hti, hbig2, Int.toNat_natCast, Bool.not_true, Bool.false_eq_true, hroom, hbig, h48, false_and, run_choose_drew, hq, hnc, hroomrun, hwd, hf, hz, hzc, hms2, hrest, newRow, run_newObj_alloc]
  · have := (hm.drewN).alloc (.cells (⟨xs.flatMap enc⟩ ++ ⟨(List.replicate m z0).flatMap enc⟩ ++ rest) e)
    have e1 : (Obj.cells (⟨xs.flatMap enc⟩ ++ ⟨(List.replicate m z0).flatMap enc⟩ ++ rest) e : Obj) = blk ([] ++ (xs ++ List.replicate m z0).flatMap enc ++ rest.toList) e (0, 0) := by
      unfold blk
      congr 1
      apply Array.ext'
      simp
    rw [e1] at this ⊢
    exact this
/-- append(x, make([]T, m)...) where there is no room: x stays -/
theorem OT.append_zeros_new {x y : Operand} {t2 : Nat} {kk kv : IntKind} {v zv : Value} {z0 : α} {m : Nat} {xs : List α} {a : Option Addr} {cap : Nat} (hz0 : ∀ w, (zeroValue e).run X.P w = .ok zv w) (henc : enc z0 = zv.cells.toList) (hsz0 : 0 < sz)
    (hT : T.ok X.P) (he : Elem X.P t e sz) (ht2 : ty T t2 = some (.one (.int kk))) (hg : grd ops R gd = some true)
    (hx : ev R x = some v) (hy : ev R y = some (.int kv m)) (hrow : Row enc sz hs v xs) (hb : xs.length + m ≤ 4294967296) (hv : v = .slice a xs.length cap) (hroom : ¬ xs.length + m ≤ cap) (hdn : Nat.ble (d + 1) X.n = true)
    (h : ∀ v' H', Own enc sz e v' (xs ++ List.replicate m z0) H' → OT X ops l k ((d, v') :: R) (H' :: hs)) : OT X ops (⟨some d, .call ⟨.builtin .append, #[x, y], #[t, t2]⟩, ty', pos, after, gd⟩ :: l) k R hs := by
  refine OT.value hg rfl hdn fun a w ha hm => ?_
  obtain ⟨v', H', w', hr, ho, hm'⟩ := append_new (kv := kv) he hrow hm hz0 henc hsz0 (hT.ty ht2).1 hb hv hroom ty'
  exact ⟨v', H' :: hs, w', exec_append (ha.ev hx) (ha.ev hy) t t2 hr, hm', h v' H' ho⟩
/-- copy(s[i+1:], s[i:]), s one longer than what was its own -/
theorem OT.copy_up {x y : Operand} {t2 b o n c i p q : Nat} {dc sc : Nat} {xs : List α} {H : Chunk} {r : List Chunk} (hT : T.ok X.P) (ht : ty T t = some (.slice e sz)) (hg : grd ops R gd = some true)
    (hx : ev R x = some (.slice (some ⟨b, o + (i + 1) * sz, none⟩) p dc)) (hy : ev R y = some (.slice (some ⟨b, o + i * sz, none⟩) q sc)) (hp : Pull hs H r) (hown : Own enc sz e (.slice (some ⟨b, o, none⟩) n c) xs H) (hi : i < xs.length) (hn : n + 1 ≤ c)
    (hpl : p = xs.length - i) (hql : q = xs.length - i + 1) (h1 : ones (xs.flatMap enc) = true) (hdn : Nat.ble (d + 1) X.n = true)
    (h : ∀ H', Own enc sz e (.slice (some ⟨b, o, none⟩) (n + 1) c) (xs.take (i + 1) ++ xs.drop i) H' → OT X ops l k ((d, .int .i64 (xs.length - i : Nat)) :: R) (H' :: r)) : OT X ops (⟨some d, .call ⟨.builtin .copy, #[x, y], #[t, t2]⟩, ty', pos, after, gd⟩ :: l) k R hs := by
  refine OT.value hg rfl hdn fun a w ha hm => ?_
  have hm := hm.pull hp
  obtain ⟨hall, ⟨h2, _⟩ | ⟨b', cap, pre, sp, fr, h2, rfl, hc, hsp, hth⟩⟩ := hown
  · cases h2
  injection h2 with h2 h3 h4
  injection h2 with h2
  injection h2 with h2 h5
  subst h2 h3 h4 h5
  have hu := (hT.ty ht).1
  have hsz := (hT.ty ht).2.1
  have hl0 : (xs.flatMap enc).length = xs.length * sz := length_flatMap_enc hall
  have hld : ((xs.drop i).flatMap enc).length = (xs.length - i) * sz := by rw [length_flatMap_enc (fun y hy => hall y (List.mem_of_mem_drop hy)), List.length_drop]
  have hspl : sz ≤ sp.length := Nat.le_trans (Nat.le_mul_of_pos_left sz (by omega : 0 < c - xs.length)) hsp
  have hil : i * sz + (xs.length - i) * sz = xs.length * sz := by rw [← Nat.add_mul]; congr 1; omega
  have hrd : ((pre ++ xs.flatMap enc ++ sp).drop (pre.length + i * sz)).take ((xs.length - i) * sz) = (xs.drop i).flatMap enc := by
    rw [List.append_assoc, ← List.drop_drop, List.drop_left, List.drop_append_of_le_length (by omega), List.take_append_of_le_length (by rw [List.length_drop]; omega), flatMap_drop hall, List.take_of_length_le (by rw [hld]; exact Nat.le_refl _)]
  have hld2 := hm.loadCells (P := X.P) (b := b) Has.one hrd hld
  have h1s : (i + 1) * sz = i * sz + sz := Nat.succ_mul i sz
  obtain ⟨w', hr, hm'⟩ := hm.storeCells (P := X.P) (o := pre.length + (i + 1) * sz) ((xs.drop i).flatMap enc) 0 (by simp only [List.length_append]; omega) (ones_sub h1 fun y hy => by
    rw [List.mem_flatMap] at hy ⊢; obtain ⟨z, hz, hy⟩ := hy; exact ⟨z, List.mem_of_mem_drop hz, hy⟩) hth
  have hcells : splice (pre ++ xs.flatMap enc ++ sp) (pre.length + (i + 1) * sz + 0) ((xs.drop i).flatMap enc) = pre ++ (xs.take (i + 1) ++ xs.drop i).flatMap enc ++ sp.drop sz := by
    unfold splice
    rw [hld, Nat.add_zero, List.append_assoc pre, List.take_length_add_append, show pre.length + (i + 1) * sz + (xs.length - i) * sz = pre.length + (xs.length * sz + sz) by omega, List.drop_length_add_append]
    have e1 : (xs.flatMap enc ++ sp).take ((i + 1) * sz) = (xs.take (i + 1)).flatMap enc := by
      rw [List.take_append_of_le_length (by rw [hl0]; exact Nat.mul_le_mul_right _ (by omega)), flatMap_take hall]
    have e2 : (xs.flatMap enc ++ sp).drop (xs.length * sz + sz) = sp.drop sz := by
      rw [← hl0, List.drop_length_add_append]
    rw [e1, e2, List.flatMap_append]; simp only [List.append_assoc]
  rw [hcells] at hm'
  refine ⟨.int .i64 (xs.length - i : Nat), _, w', ?_, hm', h _ ⟨?_, .inr ⟨b, c, pre, sp.drop sz, fr, ?_, rfl, ?_, ?_, ?_⟩⟩⟩
  · refine exec_copy (ha.ev hx) (ha.ev hy) (some d) t t2 ?_
    unfold Builtin.copy_
    simp only [List.getElem?_toArray, List.getElem?_cons_zero, List.getElem?_cons_succ]
    rw [Sem.run_bind, run_underlying hu]
    simp only [Result.andThen_ok]
    rw [Sem.run_bind]
    show Result.andThen (Result.ok q w) _ = _
    simp only [Result.andThen_ok]
    rw [Sem.run_bind, hsz]
    simp only [Result.andThen_ok]
    have hmin : Nat.min q p = xs.length - i := by show min q p = _; omega
    rw [Sem.run_bind, hmin]
    show Result.andThen ((loadCells ⟨b, pre.length + i * sz, none⟩ ((xs.length - i) * sz)).run X.P w) _ = _
    rw [hld2]
    simp only [Result.andThen_ok]
    rw [Sem.run_bind, hr]
    rfl
  · intro y hy
    rcases List.mem_append.1 hy with hy | hy
    · exact hall y (List.mem_of_mem_take hy)
    · exact hall y (List.mem_of_mem_drop hy)
  · congr 1; rw [List.length_append, List.length_take, List.length_drop]; omega
  · rw [List.length_append, List.length_take, List.length_drop]; omega
  · rw [List.length_append, List.length_take, List.length_drop, List.length_drop, show c - (min (i + 1) xs.length + (xs.length - i)) = c - xs.length - 1 by omega, Nat.sub_mul, Nat.one_mul]; omega
  · refine hth.imp id fun hle => ?_
    simp only [List.length_append, List.flatMap_append, hld, List.length_drop, hl0] at hle ⊢
    rw [length_flatMap_enc (fun y hy => hall y (List.mem_of_mem_take hy)), List.length_take, Nat.min_eq_left (by omega)]
    omega
/-- a call of slices.overlaps: what was just written out, and what was there -/
theorem OT.overlaps {x : Operand} {f : Nat} {fn : Func} {xs : Array Operand} {tys : Array Nat} {tS tR b1 o b2 n1 c1 n2 c2 : Nat} {cs1 : List Value} {e1 : Nat} {ys : List α} {n c : Nat} {H : Chunk} {r : List Chunk}
    (hf : X.P.funcs[f]? = some fn) (hname : (fn.name == "runtime.NumGoroutine") = false) (hb : fn.body.isNone = true) (hn : Extern.findNext fn = none) (he : Extern.find fn = some (Extern.SlicesOverlaps.overlaps #[tS, tS] #[tR]))
    (hT : T.ok X.P) (ht : ty T tS = some (.slice e sz)) (hg : grd ops R gd = some true) (hx : ev R x = some (.func (.func f) #[] #[])) {o2 : Nat} (hxs : evs R xs.toList = some [.slice (some ⟨b1, 0, none⟩) n1 c1, .slice (some ⟨b2, o2, none⟩) n2 c2]) (hdn : Nat.ble (d + 1) X.n = true)
    (hp : Pull hs H r) (hown : Own enc sz e (.slice (some ⟨b2, o, none⟩) n c) ys H) (hys : 0 < ys.length) (hsz : 0 < sz) (h1 : Has r b1 (blk cs1 e1 (0, 0))) (h : OT X ops l k ((d, .bool false) :: R) hs) : OT X ops (⟨some d, .call ⟨.value x, xs, tys⟩, ty', pos, after, gd⟩ :: l) k R hs := by
  refine OT.value hg rfl hdn fun a w ha hm => ⟨.bool false, hs, w, ?_, hm, h⟩
  have hm := hm.pull hp
  obtain ⟨hall, ⟨h2, _⟩ | ⟨b', cap, pre, sp, fr, h2, rfl, hc, hsp, hth⟩⟩ := hown
  · cases h2
  injection h2 with h2 h3 h4
  injection h2 with h2
  injection h2 with h2 h5
  subst h2 h3 h4 h5
  have hne : b1 ≠ b2 := by
    intro e; subst e
    have hn := hm.nodup
    simp only [List.flatten_cons, List.singleton_append, List.map_cons, List.nodup_cons] at hn
    exact hn.1 (List.mem_map.2 ⟨_, h1.mem, rfl⟩)
  have hb1 := hm.heap (b := b1) (.there h1)
  have hb2 := hm.heap (b := b2) .one
  have hl0 : (ys.flatMap enc).length = ys.length * sz := length_flatMap_enc hall
  have hk : (pre ++ ys.flatMap enc ++ sp).length ≠ 0 := by
    simp only [List.length_append]
    have : 0 < ys.length * sz := Nat.mul_pos hys hsz
    omega
  have hov := Lib.run_overlaps_apart (P := X.P) w tS tR e (hT.ty ht).1 sz (hT.ty ht).2.1 ⟨b1, 0, none⟩ ⟨b2, o2, none⟩ n1 c1 n2 c2 hne e1 e cs1.length (pre ++ ys.flatMap enc ++ sp).length
    (by simp [World.shape?, hb1]) (by simp [World.shape?, hb2]) hk (by simp [World.frozen?, hb1]) (by simp [World.frozen?, hb1])
  have hc := run_callFunc_extern hf hname hb hn he (⟨[.slice (some ⟨b1, 0, none⟩) n1 c1, .slice (some ⟨b2, o2, none⟩) n2 c2]⟩) w
  rw [hov] at hc
  simp only [execOp, resolve, ha.ev hx, Deferred.ofValue]
  have e : xs.map a.eval = ⟨[.slice (some ⟨b1, 0, none⟩) n1 c1, .slice (some ⟨b2, o2, none⟩) n2 c2]⟩ := by
    have := ha.evs hxs
    apply Array.ext'
    simpa using this
  rw [e]
  refine Eq.trans ?_ hc
  simp [Go.invoke]
end
end Go.Sx
namespace Go.Pl
open Go Go.Sx
def insAt {α : Type} (xs : List α) (i : Nat) (y : α) : List α := xs.take i ++ y :: xs.drop i
theorem ins_new {α : Type} {xs : List α} {i m : Nat} {y z : α} (h : i < xs.length) (hm : m = xs.length + 1 - i) : over (over (xs.take i ++ List.replicate m z) i [y]) (i + 1) (xs.drop i) = insAt xs i y := by
  subst hm
  have hl : (xs.take i).length = i := by rw [List.length_take]; omega
  have e1 : over (xs.take i ++ List.replicate (xs.length + 1 - i) z) i [y] = (xs.take i ++ [y]) ++ List.replicate (xs.length - i) z := by
    unfold over
    rw [List.take_append_of_le_length (by omega), List.take_of_length_le (by omega), List.length_singleton, show i + 1 = (xs.take i).length + 1 by omega, List.drop_length_add_append, List.drop_replicate, show xs.length + 1 - i - 1 = xs.length - i by omega]
  rw [e1]
  have hl2 : (xs.take i ++ [y]).length = i + 1 := by rw [List.length_append, hl]; rfl
  have e2 : (xs.take i ++ [y] ++ List.replicate (xs.length - i) z).drop (i + 1 + (xs.drop i).length) = [] := List.drop_of_length_le (by rw [List.length_append, hl2, List.length_replicate, List.length_drop]; omega)
  have e3 : (xs.take i ++ [y] ++ List.replicate (xs.length - i) z).take (i + 1) = xs.take i ++ [y] := by rw [List.take_append_of_le_length (by omega), List.take_of_length_le (by omega)]
  unfold over insAt
  rw [e2, e3]
  simp
theorem ins_in {α : Type} {xs : List α} {i : Nat} {y : α} (h : i < xs.length) : over (xs.take (i + 1) ++ xs.drop i) i [y] = insAt xs i y := by
  unfold over insAt
  have hl : (xs.take (i + 1)).length = i + 1 := by rw [List.length_take]; omega
  rw [List.take_append_of_le_length (by omega), List.take_take, Nat.min_eq_left (by omega), List.length_singleton]
  have e : (xs.take (i + 1) ++ xs.drop i).drop (xs.take (i + 1)).length = xs.drop i := List.drop_left
  rw [hl] at e
  rw [e]
  simp
theorem ins_end {α : Type} (xs : List α) (y : α) : xs ++ [y] = insAt xs xs.length y := by unfold insAt; simp
theorem ones_all {α : Type} {enc : α → List Value} (h : ∀ x, ones (enc x) = true) : ∀ l : List α, ones (l.flatMap enc) = true := by
  intro l
  induction l with
  | nil => rfl
  | cons x l ih =>
    have h1 := h x
    unfold ones at *
    rw [List.flatMap_cons, List.all_append, h1, ih]; rfl
theorem ones_cells (l : List Cell) : ones (l.flatMap encCell) = true := ones_all (fun _ => rfl) l
theorem ones_strs (l : List ByteArray) : ones (l.flatMap encS) = true := ones_all (fun _ => rfl) l
theorem ones_ints (l : List Int) : ones (l.flatMap encI) = true := ones_all (fun _ => rfl) l
theorem own_slice {α : Type} {enc : α → List Value} {sz e : Nat} {v : Value} {xs : List α} {K : Chunk} (h : Own enc sz e v xs K) (hx : 0 < xs.length) : ∃ b o c, v = .slice (some ⟨b, o, none⟩) xs.length c := by
  obtain ⟨_, ⟨_, h2, _⟩ | ⟨b, cap, pre, sp, fr, h2, _⟩⟩ := h
  · rw [h2] at hx; cases hx
  · exact ⟨b, _, cap, h2⟩
theorem own_at {α : Type} {enc : α → List Value} {sz e : Nat} {a : Option Addr} {n c : Nat} {xs : List α} {K : Chunk} (h : Own enc sz e (.slice a n c) xs K) (hx : 0 < xs.length) : ∃ b o, a = some ⟨b, o, none⟩ := by
  obtain ⟨b, o, c', e⟩ := own_slice h hx
  injection e with e; exact ⟨b, o, e⟩
end Go.Pl
end

section
namespace Go.Pl
open Go Go.Sx

/-! ### one page has one node -/
theorem cells_inj : ∀ {l1 l2 : List Cell} {p1 p2 : List UInt8}, l1.length = l2.length → (∀ c ∈ l1, mayCell c = true ∧ c.val.f < 2 ^ 64 ∧ c.new.f < 2 ^ 64) → (∀ c ∈ l2, mayCell c = true ∧ c.val.f < 2 ^ 64 ∧ c.new.f < 2 ^ 64) → l1.flatMap cellBytes ++ p1 = l2.flatMap cellBytes ++ p2 → l1 = l2
  | [], [], _, _, _, _, _, _ => rfl
  | [], _ :: _, _, _, h, _, _, _ => by cases h
  | _ :: _, [], _, _, h, _, _, _ => by cases h
  | a :: l1, b :: l2, p1, p2, hl, h1, h2, h => by
    rw [List.flatMap_cons, List.flatMap_cons, List.append_assoc, List.append_assoc] at h
    obtain ⟨a1, a2, a3⟩ := h1 a (by simp)
    obtain ⟨b1, b2, b3⟩ := h2 b (by simp)
    have e1 := cellGet_bytes a1 a2 a3 (l1.flatMap cellBytes ++ p1)
    have e2 := cellGet_bytes b1 b2 b3 (l2.flatMap cellBytes ++ p2)
    rw [h, e2] at e1
    have e3 : b = a := congrArg Prod.fst e1
    subst e3
    rw [cells_inj (by simpa using hl) (fun c hc => h1 c (by simp [hc])) (fun c hc => h2 c (by simp [hc])) (List.append_cancel_left h)]
theorem kids_inj : ∀ {l1 l2 : List Int} {p1 p2 : List UInt8}, l1.length = l2.length → (∀ c ∈ l1, 2 ≤ c ∧ c < 32) → (∀ c ∈ l2, 2 ≤ c ∧ c < 32) → l1.flatMap put ++ p1 = l2.flatMap put ++ p2 → l1 = l2 ∧ p1 = p2
  | [], [], _, _, _, _, _, h => ⟨rfl, by simpa using h⟩
  | [], _ :: _, _, _, h, _, _, _ => by cases h
  | _ :: _, [], _, _, h, _, _, _ => by cases h
  | a :: l1, b :: l2, p1, p2, hl, h1, h2, h => by
    rw [List.flatMap_cons, List.flatMap_cons, List.append_assoc, List.append_assoc] at h
    have a1 := h1 a (by simp)
    have b1 := h2 b (by simp)
    have e1 := get_put (n := a) (by omega) (by omega) (l1.flatMap put ++ p1)
    have e2 := get_put (n := b) (by omega) (by omega) (l2.flatMap put ++ p2)
    rw [h, e2] at e1
    have e3 : b = a := congrArg Prod.fst e1
    subst e3
    obtain ⟨h3, h4⟩ := kids_inj (by simpa using hl) (fun c hc => h1 c (by simp [hc])) (fun c hc => h2 c (by simp [hc])) (List.append_cancel_left h)
    exact ⟨by rw [h3], h4⟩
theorem keys_inj : ∀ {l1 l2 : List ByteArray} {p1 p2 : List UInt8}, l1.length = l2.length → (∀ c ∈ l1, c.size ≤ 65536) → (∀ c ∈ l2, c.size ≤ 65536) → l1.flatMap putText ++ p1 = l2.flatMap putText ++ p2 → l1 = l2
  | [], [], _, _, _, _, _, _ => rfl
  | [], _ :: _, _, _, h, _, _, _ => by cases h
  | _ :: _, [], _, _, h, _, _, _ => by cases h
  | a :: l1, b :: l2, p1, p2, hl, h1, h2, h => by
    rw [List.flatMap_cons, List.flatMap_cons, List.append_assoc, List.append_assoc] at h
    have e1 := getText_put (h1 a (by simp)) (l1.flatMap putText ++ p1)
    have e2 := getText_put (h2 b (by simp)) (l2.flatMap putText ++ p2)
    rw [h, e2] at e1
    have e3 : b = a := congrArg Prod.fst e1
    subst e3
    rw [keys_inj (by simpa using hl) (fun c hc => h1 c (by simp [hc])) (fun c hc => h2 c (by simp [hc])) (List.append_cancel_left h)]
theorem key_16 {k : ByteArray} (h : mayKey k = true) : k.size ≤ 16 ∧ k ≠ ⟨#[]⟩ := by
  unfold mayKey at h
  rw [Bool.and_eq_true, decide_eq_true_eq, decide_eq_true_eq] at h
  exact ⟨h.2, h.1⟩
theorem put_inj {a b : Nat} {p1 p2 : List UInt8} (ha : a ≤ 256) (hb : b ≤ 256) (h : put a ++ p1 = put b ++ p2) : a = b ∧ p1 = p2 := by
  have e1 := get_put (n := a) (by omega) (by omega) p1
  have e2 := get_put (n := b) (by omega) (by omega) p2
  rw [h, e2] at e1
  have e3 : (b : Int) = a := congrArg Prod.fst e1
  have e4 : a = b := by omega
  subst e4
  exact ⟨rfl, List.append_cancel_left h⟩
theorem page_inj {bs : List UInt8} {n m : Nd} (h1 : IsPage bs n) (h2 : IsPage bs m) : n = m := by
  have hl : n.leaf = m.leaf := by rw [page_first h1, page_first h2]
  cases hn : n.leaf with
  | true =>
    have hm : m.leaf = true := by rw [← hl]; exact hn
    obtain ⟨p1, e1⟩ := page_leaf h1 hn
    obtain ⟨p2, e2⟩ := page_leaf h2 hm
    rw [e1] at e2
    have e2 := (List.cons.inj e2).2
    obtain ⟨e3, e4⟩ := put_inj h1.1.fits.few.1 h2.1.fits.few.1 e2
    obtain ⟨k1, i1, c1, _⟩ := (may_leaf hn).1 h1.1.fits.1
    obtain ⟨k2, i2, c2, _⟩ := (may_leaf hm).1 h2.1.fits.1
    have := cells_inj e3 (fun c hc => ⟨c1 c hc, h1.1.fl c hc⟩) (fun c hc => ⟨c2 c hc, h2.1.fl c hc⟩) e4
    cases n; cases m; simp_all
  | false =>
    have hm : m.leaf = false := by rw [← hl]; exact hn
    obtain ⟨p1, e1⟩ := page_ways h1 hn
    obtain ⟨p2, e2⟩ := page_ways h2 hm
    rw [e1] at e2
    have e2 := (List.cons.inj e2).2
    obtain ⟨e3, e4⟩ := put_inj h1.1.fits.few.2 h2.1.fits.few.2 e2
    obtain ⟨k1, i1, _, c1, _, _, l1⟩ := (may_ways hn).1 h1.1.fits.1
    obtain ⟨k2, i2, _, c2, _, _, l2⟩ := (may_ways hm).1 h2.1.fits.1
    obtain ⟨e5, e6⟩ := kids_inj e3 c1 c2 e4
    have := keys_inj (by omega) (fun c hc => Nat.le_trans (key_16 (i1 c hc)).1 (by decide)) (fun c hc => Nat.le_trans (key_16 (i2 c hc)).1 (by decide)) e6
    cases n; cases m; simp_all

/-! ### pages, nodes, the first page -/
abbrev TE (α : Type) := Except Int α
abbrev Pg := Int → Int × List UInt8
def pageT (pg : Pg) (no : Int) : TE (List UInt8) := if (pg no).1 = 0 then .ok (pg no).2 else .error (pg no).1
open Classical in
noncomputable def decT (bs : List UInt8) : TE Nd := if h : ∃ n, IsPage bs n then .ok h.choose else .error 8
theorem decT_ok {bs : List UInt8} {n : Nd} (h : IsPage bs n) : decT bs = .ok n := by
  have hx : ∃ n, IsPage bs n := ⟨n, h⟩
  unfold decT; rw [dif_pos hx, page_inj hx.choose_spec h]
theorem decT_bad {bs : List UInt8} (h : ¬ ∃ n, IsPage bs n) : decT bs = .error 8 := by unfold decT; rw [dif_neg h]
theorem decT_is {bs : List UInt8} {n : Nd} (h : decT bs = .ok n) : IsPage bs n := by
  unfold decT at h
  split at h
  · rename_i hx; injection h with h; rw [← h]; exact hx.choose_spec
  · cases h
noncomputable def readT (pg : Pg) (no : Int) : TE Nd := (pageT pg no).bind decT
def rootT (pg : Pg) : TE Int := (pageT pg 1).bind fun _ => if (rootX (pg 1)).2 = 0 then .ok (rootX (pg 1)).1 else .error 8
theorem readT_is {pg : Pg} {no : Int} {n : Nd} (h : readT pg no = .ok n) : FitsF n := by
  unfold readT at h
  cases hp : pageT pg no with
  | error e => rw [hp] at h; cases h
  | ok bs => rw [hp] at h; exact (decT_is h).1

/-! ### where a key stands -/
def findI (l : List ByteArray) (k : ByteArray) : Nat := l.findIdx fun x => !kLt x k
theorem Stands.is {l : List ByteArray} {k : ByteArray} {i : Nat} (h : Stands l k i) : findI l k = i := by
  unfold findI
  by_cases hi : i < l.length
  · rw [List.findIdx_eq hi]
    refine ⟨?_, fun j hj => ?_⟩
    · rw [h.rest i _ (Nat.le_refl _) (List.getElem?_eq_getElem hi)]; rfl
    · rw [h.less j _ hj (List.getElem?_eq_getElem (by omega))]; rfl
  · have : i = l.length := by have := h.le; omega
    subst this
    rw [List.findIdx_eq_length]
    intro x hx
    obtain ⟨j, hj⟩ := List.getElem?_of_mem hx
    rw [h.less j x (List.getElem?_eq_some_iff.1 hj).1 hj]; rfl
theorem findI_stands {l : List ByteArray} (h : rising l) (k : ByteArray) : Stands l k (findI l k) := by
  refine ⟨List.findIdx_le_length, fun j x hj hx => ?_, fun j x hj hx => ?_⟩
  · have hl := (List.getElem?_eq_some_iff.1 hx).1
    have := List.not_of_lt_findIdx hj
    rw [(List.getElem?_eq_some_iff.1 hx).2] at this
    simpa using this
  · have hl := (List.getElem?_eq_some_iff.1 hx).1
    have hlt : findI l k < l.length := by omega
    have h1 : (!kLt l[findI l k] k) = true := List.findIdx_getElem (xs := l) (p := fun x => !kLt x k) (w := hlt)
    rw [Bool.not_eq_true'] at h1
    by_cases e : findI l k = j
    · subst e; rw [← (List.getElem?_eq_some_iff.1 hx).2]; exact h1
    · have h2 := rising_at h (by omega : findI l k < j) (List.getElem?_eq_getElem hlt) hx
      cases hh : kLt x k with
      | false => rfl
      | true => have := kLt_trans h2 hh; rw [h1] at this; cases this
def kidI (keys : List ByteArray) (k : ByteArray) : Nat := if keys[findI keys k]? = some k then findI keys k + 1 else findI keys k
def keysOf (cells : List Cell) : List ByteArray := cells.map Cell.key
def cellOf (cells : List Cell) (k : ByteArray) : Option Cell := match cells[findI (keysOf cells) k]? with | some c => if c.key = k then some c else none | none => none
theorem kidI_le (keys : List ByteArray) (k : ByteArray) : kidI keys k ≤ keys.length := by
  unfold kidI
  split
  · rename_i h; exact (List.getElem?_eq_some_iff.1 h).1
  · exact List.findIdx_le_length

/-! ### asked -/
noncomputable def getT (pg : Pg) (k : ByteArray) : Nat → Int → TE (Option Cell)
  | 0, _ => .error 8
  | f + 1, no => if no = 0 then .ok none else (readT pg no).bind fun n => if n.leaf = true then .ok (cellOf n.cells k) else getT pg k f (n.kids.getD (kidI n.keys k) 0)
noncomputable def getTop (pg : Pg) (k : ByteArray) : TE (Option Cell) := (rootT pg).bind fun no => getT pg k 32 no

/-! ### cut in two, laid -/
def halvesN (n : Nd) (i : Nat) : Nd × Nd × ByteArray :=
  if n.leaf = true then (⟨true, n.cells.take i, [], []⟩, ⟨true, n.cells.drop i, [], []⟩, keyMid ((keysOf n.cells).getD (i - 1) ⟨#[]⟩) ((keysOf n.cells).getD i ⟨#[]⟩))
  else (⟨false, [], n.keys.take (i - 1), n.kids.take i⟩, ⟨false, [], n.keys.drop i, n.kids.drop i⟩, n.keys.getD (i - 1) ⟨#[]⟩)
def countN (n : Nd) : Nat := if n.leaf = true then n.cells.length else n.kids.length
noncomputable def sizeN (n : Nd) (i : Nat) : Nat := max (ndSize (halvesN n i).1) (ndSize (halvesN n i).2.1)
noncomputable def stepB (n : Nd) (st : Nat × Nat) (i : Nat) : Nat × Nat :=
  if Fits (halvesN n i).1 ∧ Fits (halvesN n i).2.1 ∧ (st.1 = 0 ∨ sizeN n i < st.2) then (i, sizeN n i) else st
noncomputable def bestTo (n : Nd) (m : Nat) : Nat × Nat := (List.range' 1 (m - 1)).foldl (stepB n) (0, 0)
noncomputable def bestN (n : Nd) : Nat := (bestTo n (countN n)).1
theorem bestTo_succ (n : Nd) {m : Nat} (h : 1 ≤ m) : bestTo n (m + 1) = stepB n (bestTo n m) m := by
  unfold bestTo
  obtain ⟨k, rfl⟩ : ∃ k, m = k + 1 := ⟨m - 1, by omega⟩
  rw [Nat.add_sub_cancel, Nat.add_sub_cancel, List.range'_concat, List.foldl_append]
  simp [Nat.add_comm]
theorem bestTo_le (n : Nd) (m : Nat) : (bestTo n m).1 = 0 ∨ (1 ≤ (bestTo n m).1 ∧ (bestTo n m).1 < m ∧ Fits (halvesN n (bestTo n m).1).1 ∧ Fits (halvesN n (bestTo n m).1).2.1) := by
  induction m with
  | zero => exact .inl rfl
  | succ m ih =>
    by_cases h : 1 ≤ m
    · rw [bestTo_succ n h]
      unfold stepB
      split
      · rename_i hf; exact .inr ⟨h, by dsimp only; omega, hf.1, hf.2.1⟩
      · rcases ih with ih | ⟨h1, h2, h3⟩
        · exact .inl ih
        · exact .inr ⟨h1, by omega, h3⟩
    · have : m = 0 := by omega
      subst this; exact .inl rfl
noncomputable def setT (Q : Pages) (no : Int) (n : Nd) : TE Pages := if (encNd n).2 = 0 then .ok (upd Q no (encNd n).1) else .error (encNd n).2
def takeT (Q : Pages) : TE (Int × Pages) := match takeB (Q 1) with
  | some n => .ok ((n : Int), upd (upd Q 1 (setB (Q 1) n)) (n : Nat) (noughts 256))
  | none => .error 4
def freeT (Q : Pages) (no : Int) : TE Pages := if hasB (Q 1) no = true then .ok (upd Q 1 (clrB (Q 1) no.toNat)) else .error 8
def rootSet (Q : Pages) (no : Int) : Pages := upd Q 1 ((Q 1).set 4 (UInt8.ofNat no.toNat))
abbrev Part := ByteArray × Int
def noPart : Part := (⟨#[]⟩, 0)
noncomputable def putT (Q : Pages) (no : Int) (n : Nd) : TE (Part × Pages) :=
  if Fits n then .ok (noPart, upd Q no (encNd n).1)
  else if bestN n = 0 then .error 8
  else (takeT Q).bind fun x => .ok (((halvesN n (bestN n)).2.2, x.1), upd (upd x.2 no (encNd (halvesN n (bestN n)).1).1) x.1 (encNd (halvesN n (bestN n)).2.1).1)
def insC (cells : List Cell) (c : Cell) : List Cell :=
  let i := findI (keysOf cells) c.key
  if (keysOf cells)[i]? = some c.key then cells.set i c else insAt cells i c
noncomputable def insertT (c : Cell) : Nat → Pages → Int → TE (Part × Pages)
  | 0, _, _ => .error 8
  | f + 1, Q, no => (readT (pgOf Q) no).bind fun n =>
    if n.leaf = true then putT Q no { n with cells := insC n.cells c }
    else (insertT c f Q (n.kids.getD (kidI n.keys c.key) 0)).bind fun x =>
      if x.1.2 = 0 then .ok (noPart, x.2)
      else putT x.2 no { n with keys := insAt n.keys (kidI n.keys c.key) x.1.1, kids := insAt n.kids (kidI n.keys c.key + 1) x.1.2 }
noncomputable def putTop (Q : Pages) (c : Cell) : TE Pages := (rootT (pgOf Q)).bind fun no =>
  if no = 0 then (takeT Q).bind fun x => setT (rootSet x.2 x.1) x.1 ⟨true, [c], [], []⟩
  else (insertT c 32 Q no).bind fun x =>
    if x.1.2 = 0 then .ok x.2
    else (takeT x.2).bind fun y => (setT y.2 y.1 ⟨false, [], [x.1.1], [no, x.1.2]⟩).bind fun Q3 => .ok (rootSet Q3 y.1)

/-! ### taken away -/
noncomputable def restT (Q : Pages) (no : Int) (n : Nd) (left : Nat) : TE (Bool × Pages) :=
  if left = 0 then (freeT Q no).bind fun Q1 => .ok (true, Q1) else (setT Q no n).bind fun Q1 => .ok (false, Q1)
def delAt {α : Type} (xs : List α) (i : Nat) : List α := xs.take i ++ xs.drop (i + 1)
noncomputable def removeT (k : ByteArray) : Nat → Pages → Int → TE ((Bool × Bool) × Pages)
  | 0, _, _ => .error 8
  | f + 1, Q, no => (readT (pgOf Q) no).bind fun n =>
    if n.leaf = true then
      if (keysOf n.cells)[findI (keysOf n.cells) k]? = some k then
        (restT Q no { n with cells := delAt n.cells (findI (keysOf n.cells) k) } (n.cells.length - 1)).bind fun x => .ok ((true, x.1), x.2)
      else .ok ((false, false), Q)
    else (removeT k f Q (n.kids.getD (kidI n.keys k) 0)).bind fun x =>
      if x.1.2 = false then .ok ((x.1.1, false), x.2)
      else (restT x.2 no { n with keys := if 0 < n.keys.length then delAt n.keys (kidI n.keys k - 1) else n.keys, kids := delAt n.kids (kidI n.keys k) } (n.kids.length - 1)).bind fun y => .ok ((x.1.1, y.1), y.2)
noncomputable def shrinkT : Nat → Pages → Int → TE Pages
  | 0, _, _ => .error 8
  | f + 1, Q, no => (readT (pgOf Q) no).bind fun n =>
    if n.leaf = true ∨ 1 < n.kids.length then .ok Q
    else (freeT Q no).bind fun Q1 => shrinkT f (rootSet Q1 (n.kids.getD 0 0)) (n.kids.getD 0 0)
noncomputable def delTop (Q : Pages) (k : ByteArray) : TE (Bool × Pages) := (rootT (pgOf Q)).bind fun no =>
  if no = 0 then .ok (false, Q)
  else (removeT k 32 Q no).bind fun x =>
    if x.1.2 = true then .ok (x.1.1, rootSet x.2 0)
    else if x.1.1 = true then (shrinkT 32 x.2 no).bind fun Q1 => .ok (true, Q1) else .ok (false, x.2)

/-! ### gone through, checked -/
abbrev Gone := List Int × List Cell
noncomputable def throughT (pg : Pg) : Nat → Int → Gone → TE Gone
  | 0, _, _ => .error 8
  | f + 1, no, st =>
    if 32 ≤ st.1.length ∨ no ∈ st.1 then .error 8
    else (readT pg no).bind fun n => n.kids.foldl (fun r kid => r.bind (throughT pg f kid)) (.ok (st.1 ++ [no], st.2 ++ n.cells))
noncomputable def allT (pg : Pg) : TE Gone := (rootT pg).bind fun no => if no ≠ 0 then throughT pg 32 no ([], []) else .ok ([], [])
def lowOf (keys : List ByteArray) (lo : ByteArray) (i : Nat) : ByteArray := if 0 < i then keys.getD (i - 1) ⟨#[]⟩ else lo
def highOf (keys : List ByteArray) (hi : ByteArray) (i : Nat) : ByteArray := if i < keys.length then keys.getD i ⟨#[]⟩ else hi
noncomputable def checkT (pg : Pg) : Nat → Int → ByteArray → ByteArray → Bool → TE Int
  | 0, _, _, _, _ => .error 8
  | f + 1, no, lo, hi, top => (readT pg no).bind fun n =>
    if n.leaf = true then
      if top = true ∨ 0 < n.cells.length then if n.cells.all fun c => keyIn c.key lo hi then .ok 0 else .error 8 else .error 8
    else ((List.range n.kids.length).foldl (fun (r : TE Int) i => r.bind fun deep => (checkT pg f (n.kids.getD i 0) (lowOf n.keys lo i) (highOf n.keys hi i) false).bind fun d => if deep < 0 ∨ d = deep then .ok d else .error 8) (.ok (-1) : TE Int)).bind fun deep => .ok (deep + 1)
noncomputable def checkTop (pg : Pg) : TE Unit := (allT pg).bind fun g =>
  (if g.1 = [] then .ok 0 else checkT pg 32 (g.1.getD 0 0) ⟨#[]⟩ ⟨#[]⟩ true).bind fun _ =>
    if (whole256 (pg 1)).1 ≠ 0 then .error (whole256 (pg 1)).1
    else if (List.range 32).all fun no => hasB (whole256 (pg 1)).2 (no : Nat) == decide ((no : Int) ∈ g.1) then .ok () else .error 8
end Go.Pl
end

section
namespace Go.Pl
open Go Go.Sx
theorem cmp_lt : ∀ a b : List UInt8, decide (Lib.compareBytes a b < 0) = Op.bytesLess a b
  | [], [] => by decide
  | [], _ :: _ => by unfold Lib.compareBytes Op.bytesLess; rfl
  | _ :: _, [] => by unfold Lib.compareBytes Op.bytesLess; rfl
  | x :: a, y :: b => by
    unfold Lib.compareBytes Op.bytesLess
    by_cases h : x < y
    · simp [h]
    · rw [if_neg h]
      by_cases h2 : y < x
      · have hne : (x == y) = false := by
          rw [beq_eq_false_iff_ne]; intro e; subst e; exact h h2
        simp [h, h2, hne]
      · have he : x = y := by
          have h := UInt8.not_lt.1 h
          have h2 := UInt8.not_lt.1 h2
          exact UInt8.le_antisymm h2 h
        subst he
        rw [if_neg h2, cmp_lt a b]
        simp [h2]
theorem cmp_eq : ∀ a b : List UInt8, decide (Lib.compareBytes a b = 0) = decide (a = b)
  | [], [] => by decide
  | [], _ :: _ => by unfold Lib.compareBytes; simp
  | _ :: _, [] => by unfold Lib.compareBytes; simp
  | x :: a, y :: b => by
    unfold Lib.compareBytes
    by_cases h : x < y
    · rw [if_pos h, decide_eq_false (by decide), decide_eq_false]
      intro e; injection e with e _; subst e; exact absurd h (UInt8.lt_irrefl x)
    · rw [if_neg h]
      by_cases h2 : y < x
      · rw [if_pos h2, decide_eq_false (by decide), decide_eq_false]
        intro e; injection e with e _; subst e; exact h h2
      · have he : x = y := UInt8.le_antisymm (UInt8.not_lt.1 h2) (UInt8.not_lt.1 h)
        subst he
        rw [if_neg h2, cmp_eq a b]
        refine decide_eq_decide.2 ⟨fun h => by rw [h], fun h => by injection h⟩
def cmpK (a b : ByteArray) : Int := Lib.compareBytes a.data.toList b.data.toList
theorem cmpK_lt (a b : ByteArray) : decide (cmpK a b < 0) = kLt a b := cmp_lt _ _
theorem cmpK_eq (a b : ByteArray) : (cmpK a b == 0) = decide (a = b) := by
  rw [show (cmpK a b == 0) = decide (cmpK a b = 0) from rfl]
  unfold cmpK
  rw [cmp_eq]
  refine decide_eq_decide.2 ⟨fun h => ?_, fun h => by rw [h]⟩
  cases a with | mk a => cases b with | mk b => cases a; cases b; simp_all
theorem keys_len (cells : List Cell) : (keysOf cells).length = cells.length := List.length_map _
theorem keys_at {cells : List Cell} {i : Nat} {c : Cell} (h : cells[i]? = some c) : (keysOf cells)[i]? = some c.key := by unfold keysOf; rw [List.getElem?_map, h]; rfl
end Go.Pl
end

section
namespace Go.Sx
open Go
section
variable [Outer] {X : Cx} {T : Tab} {Cs : List Chunk} {R : Reg} {sz e t : Nat}
theorem Fl.slice_val {x : Operand} {lo hi : Option Operand} {a : Option Addr} {n c : Nat} {vl vh : Option Value} (L H : Nat) (hT : T.ok X.P) (ht : ty T t = some (.slice e sz)) (hx : ev R x = some (.slice a n c))
    (hlo : evo R lo = some vl) (hhi : evo R hi = some vh) (hL : bnd vl 0 L) (hH : bnd vh n H) (h1 : L ≤ H) (h2 : H ≤ c) :
    Fl X T Cs R (.slice t x lo hi none) (.slice (if c = L then a else a.map (·.add (L * sz))) (H - L) (c - L)) := by
  refine .det fun op ac w hop ha => ?_
  simp only [execOp, hop, ha.ev hx, ha.evo hlo, ha.evo hhi, Option.map_none]
  have := slice_run (hT.ty ht).1 (hT.ty ht).2.1 a n c vl vh L H hL hH h1 h2 w
  simp [this]
theorem fl_build {fs : List (Nat × Nat)} {z : Value} {parts : Array (Nat × Operand)} {vs : List (Nat × Value)} {cs : List Value} (hT : T.ok X.P) (ht : ty T t = some (.struct fs sz)) (hz : ∀ w, (zeroValue t).run X.P w = .ok z w)
    (hp : evp R parts.toList = some vs) (hc : fillL fs z.cells.toList vs = some cs) : Fl X T Cs R (.build t parts) (.agg ⟨cs⟩) := by
  obtain ⟨⟨F, hu, hF⟩, _⟩ := hT.ty ht
  refine .det fun op a w hop ha => ?_
  have hpl := ha.evp hp
  have hpl' : (parts.map fun x => match x with | (i, x) => (i, a.eval x)).toList = vs := by
    rw [Array.toList_map, ← hpl]
  have hmap : ∀ (F : List Field) (fs : List (Nat × Nat)), FieldsOk X.P F fs → (F.mapM fun f => do pure (f.offset, ← sizeOf f.type) : Sem (List (Nat × Nat))).run X.P w = .ok fs w := by
    intro F fs h
    induction h with
    | nil => rfl
    | cons ho hs _ ih =>
      rw [List.mapM_cons, Sem.run_bind, Sem.run_bind, hs]
      simp only [Result.andThen_ok, Sem.run_pure]
      rw [Sem.run_bind, ih, ho]
      rfl
  have hrun : (Instr.build t (parts.map fun x => match x with | (i, x) => (i, a.eval x))).run X.P w = .ok (.agg ⟨cs⟩) w := by
    unfold Instr.build
    rw [Sem.run_bind, hz]
    simp only [Result.andThen_ok]
    rw [Sem.run_bind, run_underlying hu]
    simp only [Result.andThen_ok]
    rw [Array.mapM_eq_mapM_toList, Sem.run_bind]
    have hm2 : Sem.run X.P (List.toArray <$> (F.toList.mapM fun f => do pure (f.offset, ← sizeOf f.type) : Sem (List (Nat × Nat)))) w = .ok ⟨fs⟩ w := by
      show Sem.run X.P ((F.toList.mapM fun f => do pure (f.offset, ← sizeOf f.type) : Sem (List (Nat × Nat))) >>= fun x => pure x.toArray) w = _
      rw [Sem.run_bind, hmap _ _ hF]
      rfl
    rw [hm2]
    simp only [Result.andThen_ok, hpl']
    have hfill := fill_list (fs := fs) (place := fun i => (⟨fs⟩ : Array (Nat × Nat))[i]?) (fun i p hp => by simpa using hp) vs z.cells.toList cs hc
    have hfill' : Instr.fill (fun x => (⟨fs⟩ : Array (Nat × Nat))[x]?) z.cells vs = some ⟨cs⟩ := hfill
    rw [hfill']
    rfl
  simp only [execOp, hop]
  rw [Sem.run_bind, hrun]
  rfl
end
end Go.Sx
namespace Go.Pl
open Go Go.Sx
theorem row_to {α : Type} {enc : α → List Value} {sz : Nat} {hs : List Chunk} {a : Option Addr} {n c : Nat} {xs : List α} (h : Row enc sz hs (.slice a n c) xs) {M : Nat} (h2 : M ≤ xs.length) :
    Row enc sz hs (.slice (if c = 0 then a else a.map (·.add (0 * sz))) (M - 0) (c - 0)) (xs.take M) := by
  have := h.sub (L := 0) (M := M) (Nat.zero_le _) h2; rwa [List.drop_zero] at this
theorem row_from {α : Type} {enc : α → List Value} {sz : Nat} {hs : List Chunk} {a : Option Addr} {c : Nat} {xs : List α} (h : Row enc sz hs (.slice a xs.length c) xs) {L : Nat} (h2 : L ≤ xs.length) :
    Row enc sz hs (.slice (if c = L then a else a.map (·.add (L * sz))) (xs.length - L) (c - L)) (xs.drop L) := by
  have := h.sub (L := L) (M := xs.length) h2 (Nat.le_refl _); rwa [List.take_length] at this
theorem halves_leaf {n : Nd} (h : n.leaf = true) (i : Nat) : halvesN n i = (⟨true, n.cells.take i, [], []⟩, ⟨true, n.cells.drop i, [], []⟩, keyMid ((keysOf n.cells).getD (i - 1) ⟨#[]⟩) ((keysOf n.cells).getD i ⟨#[]⟩)) := by
  unfold halvesN; rw [if_pos h]
theorem halves_ways {n : Nd} (h : n.leaf = false) (i : Nat) : halvesN n i = (⟨false, [], n.keys.take (i - 1), n.kids.take i⟩, ⟨false, [], n.keys.drop i, n.kids.drop i⟩, n.keys.getD (i - 1) ⟨#[]⟩) := by
  unfold halvesN; rw [if_neg (by rw [h]; simp)]
theorem keyOf_at {cells : List Cell} {i : Nat} {c : Cell} (h : cells[i]? = some c) : (keysOf cells).getD i ⟨#[]⟩ = c.key := by
  rw [List.getD_eq_getElem?_getD, keys_at h]; rfl
/-- what a node in hand is like -/
structure NdFew (n : Nd) : Prop where
  cells : n.cells.length ≤ 1000
  keys : n.keys.length ≤ 1000
  kids : n.kids.length ≤ 1000
  fl : ∀ c ∈ n.cells, c.val.f < 2 ^ 64 ∧ c.new.f < 2 ^ 64
  key : ∀ c ∈ n.cells, c.key.size ≤ 1000000
  ways : n.leaf = false → n.keys.length + 1 = n.kids.length
theorem NdFew.l {n : Nd} (h : NdFew n) (i : Nat) : (halvesN n i).1.cells.length ≤ 1000 ∧ (halvesN n i).1.keys.length ≤ 1000000 ∧ (halvesN n i).1.kids.length ≤ 1000000 ∧ ∀ c ∈ (halvesN n i).1.cells, c.val.f < 2 ^ 64 ∧ c.new.f < 2 ^ 64 := by
  have h1 := h.cells; have h2 := h.keys; have h3 := h.kids
  cases hl : n.leaf with
  | true => rw [halves_leaf hl]; exact ⟨by rw [List.length_take]; omega, Nat.zero_le _, Nat.zero_le _, fun c hc => h.fl c (List.mem_of_mem_take hc)⟩
  | false => rw [halves_ways hl]; exact ⟨Nat.zero_le _, by rw [List.length_take]; omega, by rw [List.length_take]; omega, fun c hc => (by cases hc)⟩
theorem NdFew.r {n : Nd} (h : NdFew n) (i : Nat) : (halvesN n i).2.1.cells.length ≤ 1000 ∧ (halvesN n i).2.1.keys.length ≤ 1000000 ∧ (halvesN n i).2.1.kids.length ≤ 1000000 ∧ ∀ c ∈ (halvesN n i).2.1.cells, c.val.f < 2 ^ 64 ∧ c.new.f < 2 ^ 64 := by
  have h1 := h.cells; have h2 := h.keys; have h3 := h.kids
  cases hl : n.leaf with
  | true => rw [halves_leaf hl]; exact ⟨by rw [List.length_drop]; omega, Nat.zero_le _, Nat.zero_le _, fun c hc => h.fl c (List.mem_of_mem_drop hc)⟩
  | false => rw [halves_ways hl]; exact ⟨Nat.zero_le _, by rw [List.length_drop]; omega, by rw [List.length_drop]; omega, fun c hc => (by cases hc)⟩
theorem NdAt.four {hs : List Chunk} {cs : List Value} {n : Nd} (h : NdAt hs cs n) : cs.length = 4 := by obtain ⟨vc, vk, vi, e, _⟩ := h.is; rw [e]; rfl
theorem count_few {n : Nd} (h : NdFew n) : countN n ≤ 1000 := by
  unfold countN; split
  · exact h.cells
  · exact h.kids
theorem set_fits {Q : Pages} {no : Int} {n : Nd} (h : Fits n) : setT Q no n = .ok (upd Q no (encNd n).1) := by unfold setT; rw [if_pos (enc_fits.2 h)]
theorem takeT_is {Q Q' : Pages} {no : Int} (h : takeT Q = .ok (no, Q')) : 2 ≤ no ∧ no < 32 := by
  unfold takeT at h
  split at h
  · rename_i n hn
    have := takeB_is hn
    injection h with h; injection h with h1 h2; omega
  · cases h
theorem putT_one {Q : Pages} {no : Int} {n : Nd} (h : Fits n) : putT Q no n = .ok (noPart, upd Q no (encNd n).1) := by unfold putT; rw [if_pos h]
theorem putT_bad {Q : Pages} {no : Int} {n : Nd} (h : ¬ Fits n) (hb : bestN n = 0) : putT Q no n = .error 8 := by unfold putT; rw [if_neg h, if_pos hb]
theorem putT_full {Q : Pages} {no : Int} {n : Nd} {e : Int} (h : ¬ Fits n) (hb : bestN n ≠ 0) (ht : takeT Q = .error e) : putT Q no n = .error e := by unfold putT; rw [if_neg h, if_neg hb, ht]; rfl
theorem putT_two {Q Q1 : Pages} {no to : Int} {n : Nd} (h : ¬ Fits n) (hb : bestN n ≠ 0) (ht : takeT Q = .ok (to, Q1)) : putT Q no n = .ok (((halvesN n (bestN n)).2.2, to), upd (upd Q1 no (encNd (halvesN n (bestN n)).1).1) to (encNd (halvesN n (bestN n)).2.1).1) := by unfold putT; rw [if_neg h, if_neg hb, ht]; rfl
end Go.Pl
end

section
namespace Go.Pl
open Go Go.Sx
theorem kid_split {H A B C : Chunk} {rest : List Chunk} : (H :: (A ++ (B ++ C)) :: rest).flatten.Perm (H :: A :: B :: C :: rest).flatten := List.Perm.of_eq (by simp only [List.flatten_cons, List.append_assoc])
theorem insertT_err {x : Cell} {f : Nat} {Q : Pages} {no e : Int} (h : readT (pgOf Q) no = .error e) : insertT x (f + 1) Q no = .error e := by unfold insertT; rw [h]; rfl
theorem insertT_leaf {x : Cell} {f : Nat} {Q : Pages} {no : Int} {n : Nd} (h : readT (pgOf Q) no = .ok n) (hl : n.leaf = true) : insertT x (f + 1) Q no = putT Q no { n with cells := insC n.cells x } := by
  unfold insertT; rw [h]; show (if _ then _ else _) = _; rw [if_pos hl]
theorem insertT_kid_err {x : Cell} {f : Nat} {Q : Pages} {no e : Int} {n : Nd} (h : readT (pgOf Q) no = .ok n) (hl : n.leaf = false) (h2 : insertT x f Q (n.kids.getD (kidI n.keys x.key) 0) = .error e) : insertT x (f + 1) Q no = .error e := by
  unfold insertT; rw [h]; show (if _ then _ else _) = _; rw [if_neg (by rw [hl]; simp), h2]; rfl
theorem insertT_kid_zero {x : Cell} {f : Nat} {Q Q1 : Pages} {no : Int} {n : Nd} {y : Part} (h : readT (pgOf Q) no = .ok n) (hl : n.leaf = false) (h2 : insertT x f Q (n.kids.getD (kidI n.keys x.key) 0) = .ok (y, Q1)) (h3 : y.2 = 0) : insertT x (f + 1) Q no = .ok (noPart, Q1) := by
  unfold insertT; rw [h]; show (if _ then _ else _) = _; rw [if_neg (by rw [hl]; simp), h2]; show (if _ then _ else _) = _; rw [if_pos h3]
theorem insertT_kid {x : Cell} {f : Nat} {Q Q1 : Pages} {no : Int} {n : Nd} {y : Part} (h : readT (pgOf Q) no = .ok n) (hl : n.leaf = false) (h2 : insertT x f Q (n.kids.getD (kidI n.keys x.key) 0) = .ok (y, Q1)) (h3 : y.2 ≠ 0) :
    insertT x (f + 1) Q no = putT Q1 no { n with keys := insAt n.keys (kidI n.keys x.key) y.1, kids := insAt n.kids (kidI n.keys x.key + 1) y.2 } := by
  unfold insertT; rw [h]; show (if _ then _ else _) = _; rw [if_neg (by rw [hl]; simp), h2]; show (if _ then _ else _) = _; rw [if_neg h3]
theorem insC_at {cells : List Cell} {x : Cell} (h : (keysOf cells)[findI (keysOf cells) x.key]? = some x.key) : insC cells x = cells.set (findI (keysOf cells) x.key) x := by unfold insC; rw [if_pos h]
theorem insC_new {cells : List Cell} {x : Cell} (h : ¬ (keysOf cells)[findI (keysOf cells) x.key]? = some x.key) : insC cells x = insAt cells (findI (keysOf cells) x.key) x := by unfold insC; rw [if_neg h]
theorem insAt_len {α : Type} {xs : List α} {i : Nat} {y : α} : (insAt xs i y).length = xs.length + 1 := by unfold insAt; simp; omega
theorem mem_insAt {α : Type} {xs : List α} {i : Nat} {y z : α} (h : z ∈ insAt xs i y) : z = y ∨ z ∈ xs := by
  unfold insAt at h
  rcases List.mem_append.1 h with h | h
  · exact .inr (List.mem_of_mem_take h)
  · rcases List.mem_cons.1 h with h | h
    · exact .inl h
    · exact .inr (List.mem_of_mem_drop h)
theorem mem_insC {cells : List Cell} {x z : Cell} (h : z ∈ insC cells x) : z = x ∨ z ∈ cells := by
  unfold insC at h
  dsimp only at h
  split at h
  · exact (List.mem_or_eq_of_mem_set h).symm
  · exact mem_insAt h
theorem insC_len {cells : List Cell} {x : Cell} : (insC cells x).length ≤ cells.length + 1 := by
  unfold insC; dsimp only; split
  · rw [List.length_set]; omega
  · rw [insAt_len]; exact Nat.le_refl _
/-- what a page's node is like -/
structure NdIs (n : Nd) : Prop where
  cells : n.cells.length ≤ 256
  keys : n.keys.length ≤ 32
  kids : n.kids.length ≤ 32
  fl : ∀ c ∈ n.cells, c.val.f < 2 ^ 64 ∧ c.new.f < 2 ^ 64
  key : ∀ c ∈ n.cells, c.key.size ≤ 16
  ways : n.leaf = false → n.keys.length + 1 = n.kids.length ∧ ∀ x ∈ n.kids, 2 ≤ x ∧ x < 32
  leaf : n.leaf = true → n.keys = [] ∧ n.kids = []
  rise : rising (keysOf n.cells)
  may : MayNd n
theorem FitsF.nd {n : Nd} (h : FitsF n) : NdIs n := by
  have hf := h.fits.few
  have hm := h.fits.1
  cases hl : n.leaf with
  | true =>
    obtain ⟨h1, h2, h3, h4⟩ := (may_leaf hl).1 hm
    exact ⟨hf.1, by rw [h1]; simp, by rw [h2]; simp, h.fl, fun c hc => (cell_ok (h3 c hc)).key, fun e => (by rw [hl] at e; cases e), fun _ => ⟨h1, h2⟩, h4, hm⟩
  | false =>
    obtain ⟨h1, h2, h3, h4, h5, h6, h7⟩ := (may_ways hl).1 hm
    exact ⟨hf.1, by omega, h6, h.fl, fun c hc => (by rw [h1] at hc; cases hc), fun _ => ⟨h7, h4⟩, fun e => (by rw [hl] at e; cases e), (by rw [h1]; exact List.Pairwise.nil), hm⟩
theorem NdIs.few_leaf {n : Nd} (h : NdIs n) (hl : n.leaf = true) {x : Cell} (hx : mayCell x = true) (hxf : x.val.f < 2 ^ 64 ∧ x.new.f < 2 ^ 64) : NdFew { n with cells := insC n.cells x } := by
  have h1 := h.cells; have h2 := h.keys; have h3 := h.kids
  refine ⟨?_, by dsimp only; omega, by dsimp only; omega, fun c hc => ?_, fun c hc => ?_, fun e => (by dsimp only at e; rw [hl] at e; cases e)⟩
  · have := insC_len (cells := n.cells) (x := x); dsimp only; omega
  · rcases mem_insC hc with rfl | hc
    · exact hxf
    · exact h.fl c hc
  · rcases mem_insC hc with rfl | hc
    · exact Nat.le_trans (cell_ok hx).key (by decide)
    · exact Nat.le_trans (h.key c hc) (by decide)
theorem NdIs.few_ways {n : Nd} (h : NdIs n) (hl : n.leaf = false) (i j : Nat) (k : ByteArray) (to : Int) : NdFew { n with keys := insAt n.keys i k, kids := insAt n.kids j to } := by
  have h1 := h.cells; have h2 := h.keys; have h3 := h.kids
  refine ⟨by dsimp only; omega, by dsimp only; rw [insAt_len]; omega, by dsimp only; rw [insAt_len]; omega, h.fl, fun c hc => Nat.le_trans (h.key c hc) (by decide), fun _ => ?_⟩
  dsimp only; rw [insAt_len, insAt_len, (h.ways hl).1]
theorem NdIs.kid {n : Nd} (h : NdIs n) (hl : n.leaf = false) (k : ByteArray) : ∃ no, n.kids[kidI n.keys k]? = some no ∧ n.kids.getD (kidI n.keys k) 0 = no ∧ mayUse no := by
  have h1 := kidI_le n.keys k
  have h2 := (h.ways hl).1
  obtain ⟨no, hno⟩ : ∃ no, n.kids[kidI n.keys k]? = some no := ⟨_, List.getElem?_eq_getElem (by omega)⟩
  refine ⟨no, hno, by rw [List.getD_eq_getElem?_getD, hno]; rfl, ?_⟩
  have := (h.ways hl).2 no (List.mem_of_getElem? hno)
  exact this
theorem may_page {no : Int} (h : mayUse no) : mayPage no := by unfold mayUse at h; unfold mayPage; omega
theorem use_bound {no : Int} (h : mayUse no) : -9223372036854775808 ≤ no ∧ no ≤ 9223372036854775807 := by unfold mayUse at h; omega
theorem ones_nd {b : Bool} {v1 v2 v3 : Value} (h1 : oneC v1 = true) (h2 : oneC v2 = true) (h3 : oneC v3 = true) : ones [.bool b, v1, v2, v3] = true := by
  show (true && (oneC v1 && (oneC v2 && (oneC v3 && true)))) = true
  rw [h1, h2, h3]; rfl
theorem key_cell {cells : List Cell} {i : Nat} {k : ByteArray} (h : (keysOf cells)[i]? = some k) : ∃ z, cells[i]? = some z ∧ z.key = k := by
  unfold keysOf at h
  rw [List.getElem?_map] at h
  cases hc : cells[i]? with
  | none => rw [hc] at h; cases h
  | some z => rw [hc] at h; injection h with h; exact ⟨z, rfl, h⟩
end Go.Pl
end

section
namespace Go.Pl
open Go Go.Sx
variable {k : ByteArray} {f : Nat} {Q Q1 : Pages} {no e : Int} {n : Nd}
theorem removeT_err (h : readT (pgOf Q) no = .error e) : removeT k (f + 1) Q no = .error e := by unfold removeT; rw [h]; rfl
theorem removeT_none (h : readT (pgOf Q) no = .ok n) (hl : n.leaf = true) (h2 : ¬ (keysOf n.cells)[findI (keysOf n.cells) k]? = some k) : removeT k (f + 1) Q no = .ok ((false, false), Q) := by
  unfold removeT; rw [h]; show (if _ then _ else _) = _; rw [if_pos hl, if_neg h2]
theorem removeT_leaf (h : readT (pgOf Q) no = .ok n) (hl : n.leaf = true) (h2 : (keysOf n.cells)[findI (keysOf n.cells) k]? = some k) :
    removeT k (f + 1) Q no = (restT Q no { n with cells := delAt n.cells (findI (keysOf n.cells) k) } (n.cells.length - 1)).bind fun x => .ok ((true, x.1), x.2) := by
  unfold removeT; rw [h]; show (if _ then _ else _) = _; rw [if_pos hl, if_pos h2]
theorem removeT_kid_err (h : readT (pgOf Q) no = .ok n) (hl : n.leaf = false) (h2 : removeT k f Q (n.kids.getD (kidI n.keys k) 0) = .error e) : removeT k (f + 1) Q no = .error e := by
  unfold removeT; rw [h]; show (if _ then _ else _) = _; rw [if_neg (by rw [hl]; simp), h2]; rfl
theorem removeT_kid_stay {y : Bool × Bool} (h : readT (pgOf Q) no = .ok n) (hl : n.leaf = false) (h2 : removeT k f Q (n.kids.getD (kidI n.keys k) 0) = .ok (y, Q1)) (h3 : y.2 = false) : removeT k (f + 1) Q no = .ok ((y.1, false), Q1) := by
  unfold removeT; rw [h]; show (if _ then _ else _) = _; rw [if_neg (by rw [hl]; simp), h2]; show (if _ then _ else _) = _; rw [if_pos h3]
/-- what is left of a node without kid i -/
def cutKid (n : Nd) (i : Nat) : Nd := { n with keys := if 0 < n.keys.length then delAt n.keys (i - 1) else n.keys, kids := delAt n.kids i }
theorem removeT_kid {y : Bool × Bool} (h : readT (pgOf Q) no = .ok n) (hl : n.leaf = false) (h2 : removeT k f Q (n.kids.getD (kidI n.keys k) 0) = .ok (y, Q1)) (h3 : y.2 ≠ false) :
    removeT k (f + 1) Q no = (restT Q1 no (cutKid n (kidI n.keys k)) (n.kids.length - 1)).bind fun z => .ok ((y.1, z.1), z.2) := by
  unfold removeT cutKid; rw [h]; show (if _ then _ else _) = _; rw [if_neg (by rw [hl]; simp), h2]; show (if _ then _ else _) = _; rw [if_neg h3]
theorem delAt_len {α : Type} {xs : List α} {i : Nat} (h : i < xs.length) : (delAt xs i).length = xs.length - 1 := by unfold delAt; rw [List.length_append, List.length_take, List.length_drop]; omega
theorem mem_delAt {α : Type} {xs : List α} {i : Nat} {z : α} (h : z ∈ delAt xs i) : z ∈ xs := by
  unfold delAt at h
  rcases List.mem_append.1 h with h | h
  · exact List.mem_of_mem_take h
  · exact List.mem_of_mem_drop h
theorem cutKid_keys (n : Nd) (i : Nat) : (cutKid n i).keys.length ≤ n.keys.length := by
  unfold cutKid; dsimp only; split
  · unfold delAt; rw [List.length_append, List.length_take, List.length_drop]; omega
  · exact Nat.le_refl _
theorem restT_gone {left : Nat} (h : left = 0) : restT Q no n left = (freeT Q no).bind fun Q1 => .ok (true, Q1) := by unfold restT; rw [if_pos h]
theorem restT_left {left : Nat} (h : left ≠ 0) : restT Q no n left = (setT Q no n).bind fun Q1 => .ok (false, Q1) := by unfold restT; rw [if_neg h]
theorem bind_err {α β : Type} {x : TE α} {g : α → TE β} (h : x = .error e) : x.bind g = .error e := by rw [h]; rfl
theorem bind_ok {α β : Type} {x : TE α} {g : α → TE β} {a : α} (h : x = .ok a) : x.bind g = g a := by rw [h]; rfl
theorem shrinkT_err (h : readT (pgOf Q) no = .error e) : shrinkT (f + 1) Q no = .error e := by unfold shrinkT; rw [h]; rfl
theorem shrinkT_done (h : readT (pgOf Q) no = .ok n) (hl : n.leaf = true ∨ 1 < n.kids.length) : shrinkT (f + 1) Q no = .ok Q := by unfold shrinkT; rw [h]; show (if _ then _ else _) = _; rw [if_pos hl]
theorem shrinkT_more (h : readT (pgOf Q) no = .ok n) (hl : ¬ (n.leaf = true ∨ 1 < n.kids.length)) : shrinkT (f + 1) Q no = (freeT Q no).bind fun Q1 => shrinkT f (rootSet Q1 (n.kids.getD 0 0)) (n.kids.getD 0 0) := by
  conv => lhs; unfold shrinkT
  rw [h]; show (if _ then _ else _) = _; rw [if_neg hl]

/-- changes laid over what they were changes of -/
theorem lay_chgs {Q : Pages} {m : Chg} (h : MayChg m) : lay Q (chgs Q (layC Q m) 96) = layC Q m := by
  have key : ∀ (l : List Int) (P : Pages) (no : Int), (lay P (l.filterMap fun no => if layC Q m no = Q no then none else some (no, layC Q m no))) no = if no ∈ l ∧ layC Q m no ≠ Q no then layC Q m no else P no := by
    intro l
    induction l with
    | nil => intro P no; simp [lay]
    | cons x l ih =>
      intro P no
      rw [List.filterMap_cons]
      by_cases hx : layC Q m x = Q x
      · rw [if_pos hx]
        rw [ih P no]
        by_cases hn : no = x
        · subst hn; rw [if_neg (fun h => h.2 hx), if_neg (fun h => h.2 hx)]
        · congr 1; simp [hn]
      · rw [if_neg hx]
        show (lay (upd P x (layC Q m x)) _) no = _
        rw [ih]
        by_cases hn : no = x
        · subst hn
          rw [if_pos (⟨by simp, hx⟩ : no ∈ no :: l ∧ _)]
          split
          · rfl
          · unfold upd; rw [if_pos rfl]
        · have e1 : upd P x (layC Q m x) no = P no := by unfold upd; rw [if_neg hn]
          rw [e1]; congr 1; simp [hn]
  funext no
  unfold chgs
  rw [key]
  by_cases hn : layC Q m no = Q no
  · rw [if_neg (fun h => h.2 hn), hn]
  · refine if_pos ⟨?_, hn⟩
    have hm : mayPage no := by
      unfold layC at hn
      cases hx : m no with
      | none => rw [hx] at hn; exact absurd rfl hn
      | some x => exact (h no x hx).1
    unfold mayPage at hm
    exact List.mem_map.2 ⟨no.toNat, List.mem_range.2 (by omega), by omega⟩
theorem ShAt.lay_chgs {sT b : Nat} {v : Value} {I : Chunk → Prop} {Qb Qt : Pages} {H : Chunk} (h : ShAt sT b v I Qb Qt H) : lay Qb (chgs Qb Qt 96) = Qt := by
  obtain ⟨m, hm, rfl⟩ := h; exact Go.Pl.lay_chgs hm.may
theorem lay_take {P : Pages} {l : List Img} {i : Nat} {x : Img} (h : l[i]? = some x) : lay P (l.take (i + 1)) = upd (lay P (l.take i)) x.1 x.2 := by
  rw [List.take_add_one, h]; unfold lay; rw [List.foldl_append]; rfl
theorem sh_split {H X M G : Chunk} {rest : List Chunk} : (H :: ((X ++ M) ++ G) :: rest).flatten.Perm (H :: X :: M :: G :: rest).flatten := List.Perm.of_eq (by simp only [List.flatten_cons, List.append_assoc])
theorem st_sheet {sT b : Nat} {P : Value} {I : Chunk → Prop} {E : Int → Chunk → Prop} {Qb Qs : Pages} {bd : Bool} {G : Chunk} (h : St (ShAt sT b P I Qb Qs) (ShBad sT b P E) bd G) : ∃ m, ShOf sT b P (St I E bd) m G ∧ (bd = false → layC Qb m = Qs) := by
  cases bd with
  | false => obtain ⟨m, h1, h2⟩ := h; exact ⟨m, h1, fun _ => h2.symm⟩
  | true => obtain ⟨_, m, h1⟩ := h; exact ⟨m, h1, fun h => by cases h⟩
theorem st_out {sT b : Nat} {P : Value} {I : Chunk → Prop} {E : Int → Chunk → Prop} {Qb Q : Pages} {bd : Bool} {m : Chg} {G : Chunk} (h : ShOf sT b P (St I E bd) m G) (h2 : bd = false → layC Qb m = Q) : ShAt sT b P I Qb Q G ∨ ShBad sT b P E 0 G := by
  cases bd with
  | false => exact .inl ⟨m, h, (h2 rfl).symm⟩
  | true => exact .inr ⟨m, h⟩
theorem ones_im {hs : List Chunk} {v : Value} {ts : List Im} {x : Im} (h : ImsAt hs v ts) (hx : x ∈ ts) : ones (encIm x) = true := by
  have := oneC_slice (h.each x hx)
  show (true && (oneC x.v && true)) = true
  rw [this]; rfl
end Go.Pl
end

section
namespace Go.Pl
open Go Go.Sx
theorem two_split {H X Y : Chunk} {rest : List Chunk} : (H :: (X ++ Y) :: rest).flatten.Perm (H :: X :: Y :: rest).flatten := List.Perm.of_eq (by simp only [List.flatten_cons, List.append_assoc])
theorem two_join {H X Y : Chunk} {rest : List Chunk} : (X :: Y :: H :: rest).flatten.Perm (H :: (Y ++ X) :: rest).flatten := by
  simp only [List.flatten_cons, List.append_assoc]
  refine (List.perm_append_comm_assoc X Y _).trans ?_
  refine (List.Perm.append_left Y (List.perm_append_comm_assoc X H _)).trans ?_
  exact List.perm_append_comm_assoc Y H _
theorem FunP.repost [Outer] {P : Program} {f : Nat} {vs : List Value} {hs : List Chunk} {N N' E E' : Value → List Chunk → Prop} (h : FunP P f vs hs N E) (hn : ∀ v hs1, N v hs1 → ∃ hs2, N' v hs2 ∧ hs1.flatten.Perm hs2.flatten) (he : ∀ v hs1, E v hs1 → ∃ hs2, E' v hs2 ∧ hs1.flatten.Perm hs2.flatten) : FunP P f vs hs N' E' := fun w hm =>
  (h w hm).mono fun _ _ h => by
    rcases h with ⟨v, hs1, e, hN, hM⟩ | ⟨v, hs1, e, hN, hM⟩
    · obtain ⟨hs2, h2, hp⟩ := hn _ _ hN; exact .inl ⟨v, hs2, e, h2, hM.perm hp⟩
    · obtain ⟨hs2, h2, hp⟩ := he _ _ hN; exact .inr ⟨v, hs2, e, h2, hM.perm hp⟩
theorem rootT_use {pg : Pg} {no : Int} (h : rootT pg = .ok no) : no = 0 ∨ mayUse no := by
  unfold rootT at h
  cases hp : pageT pg 1 with
  | error e => rw [hp] at h; cases h
  | ok bs =>
    rw [hp] at h
    have h : (if (rootX (pg 1)).2 = 0 then (.ok (rootX (pg 1)).1 : TE Int) else .error 8) = .ok no := h
    by_cases hx : (rootX (pg 1)).2 = 0
    · rw [if_pos hx] at h
      injection h with h
      unfold rootX at h hx
      dsimp only at h hx
      split at h
      · exact .inl h.symm
      · rename_i h1
        rw [if_neg h1] at hx
        split at h
        · exact .inl h.symm
        · rename_i h2
          dsimp only at h
          by_cases hz : no = 0
          · exact .inl hz
          · refine .inr (Decidable.byContradiction fun hu => h2 ⟨by rw [h]; exact hz, by rw [h]; exact hu⟩)
    · rw [if_neg hx] at h; cases h
section
variable {Q : Pages} {x : Cell} {no e : Int}
theorem putTop_err (h : rootT (pgOf Q) = .error e) : putTop Q x = .error e := by unfold putTop; exact bind_err h
theorem putTop_new (h : rootT (pgOf Q) = .ok no) (h0 : no = 0) : putTop Q x = (takeT Q).bind fun y => setT (rootSet y.2 y.1) y.1 ⟨true, [x], [], []⟩ := by
  unfold putTop; refine (bind_ok h).trans ?_; exact if_pos h0
theorem putTop_in (h : rootT (pgOf Q) = .ok no) (h0 : no ≠ 0) : putTop Q x = (insertT x 32 Q no).bind fun y =>
    if y.1.2 = 0 then .ok y.2 else (takeT y.2).bind fun z => (setT z.2 z.1 ⟨false, [], [y.1.1], [no, y.1.2]⟩).bind fun Q3 => .ok (rootSet Q3 z.1) := by
  unfold putTop; refine (bind_ok h).trans ?_; exact if_neg h0
theorem putTop_one {y : Part} {Q1 : Pages} (h : rootT (pgOf Q) = .ok no) (h0 : no ≠ 0) (h1 : insertT x 32 Q no = .ok (y, Q1)) (h2 : y.2 = 0) : putTop Q x = .ok Q1 := by
  rw [putTop_in h h0]; refine (bind_ok h1).trans ?_; exact if_pos h2
theorem putTop_two {y : Part} {Q1 : Pages} (h : rootT (pgOf Q) = .ok no) (h0 : no ≠ 0) (h1 : insertT x 32 Q no = .ok (y, Q1)) (h2 : y.2 ≠ 0) : putTop Q x = (takeT Q1).bind fun z => (setT z.2 z.1 ⟨false, [], [y.1], [no, y.2]⟩).bind fun Q3 => .ok (rootSet Q3 z.1) := by
  rw [putTop_in h h0]; refine (bind_ok h1).trans ?_; exact if_neg h2
variable {k : ByteArray}
theorem delTop_err (h : rootT (pgOf Q) = .error e) : delTop Q k = .error e := by unfold delTop; exact bind_err h
theorem delTop_none (h : rootT (pgOf Q) = .ok no) (h0 : no = 0) : delTop Q k = .ok (false, Q) := by unfold delTop; refine (bind_ok h).trans ?_; exact if_pos h0
theorem delTop_in (h : rootT (pgOf Q) = .ok no) (h0 : no ≠ 0) : delTop Q k = (removeT k 32 Q no).bind fun x =>
    if x.1.2 = true then .ok (x.1.1, rootSet x.2 0)
    else if x.1.1 = true then (shrinkT 32 x.2 no).bind fun Q1 => .ok (true, Q1) else .ok (false, x.2) := by
  unfold delTop; refine (bind_ok h).trans ?_; exact if_neg h0
theorem delTop_gone {y : Bool × Bool} {Q1 : Pages} (h : rootT (pgOf Q) = .ok no) (h0 : no ≠ 0) (h1 : removeT k 32 Q no = .ok (y, Q1)) (h2 : y.2 = true) : delTop Q k = .ok (y.1, rootSet Q1 0) := by
  rw [delTop_in h h0]; refine (bind_ok h1).trans ?_; exact if_pos h2
theorem delTop_has {y : Bool × Bool} {Q1 : Pages} (h : rootT (pgOf Q) = .ok no) (h0 : no ≠ 0) (h1 : removeT k 32 Q no = .ok (y, Q1)) (h2 : y.2 = false) (h3 : y.1 = true) : delTop Q k = (shrinkT 32 Q1 no).bind fun Q2 => .ok (true, Q2) := by
  rw [delTop_in h h0]; refine (bind_ok h1).trans ?_
  show (if _ then _ else _) = _
  rw [if_neg (by dsimp only; rw [h2]; simp)]; exact if_pos h3
theorem delTop_not {y : Bool × Bool} {Q1 : Pages} (h : rootT (pgOf Q) = .ok no) (h0 : no ≠ 0) (h1 : removeT k 32 Q no = .ok (y, Q1)) (h2 : y.2 = false) (h3 : y.1 = false) : delTop Q k = .ok (false, Q1) := by
  rw [delTop_in h h0]; refine (bind_ok h1).trans ?_
  show (if _ then _ else _) = _
  rw [if_neg (by dsimp only; rw [h2]; simp)]; exact if_neg (by dsimp only; rw [h3]; simp)
end
end Go.Pl
end

section
namespace Go.Pl
open Go Go.Sx
section
variable {pg : Pg} {k : ByteArray} {f : Nat} {no e : Int} {n : Nd}
theorem getT_succ : getT pg k (f + 1) no = if no = 0 then .ok none else (readT pg no).bind fun n => if n.leaf = true then .ok (cellOf n.cells k) else getT pg k f (n.kids.getD (kidI n.keys k) 0) := rfl
theorem getT_zero (h : no = 0) : getT pg k (f + 1) no = .ok none := by rw [getT_succ]; exact if_pos h
theorem getT_err (h0 : no ≠ 0) (h : readT pg no = .error e) : getT pg k (f + 1) no = .error e := by rw [getT_succ, if_neg h0]; exact bind_err h
theorem getT_leaf (h0 : no ≠ 0) (h : readT pg no = .ok n) (hl : n.leaf = true) : getT pg k (f + 1) no = .ok (cellOf n.cells k) := by
  rw [getT_succ, if_neg h0]; refine (bind_ok h).trans ?_; exact if_pos hl
theorem getT_kid (h0 : no ≠ 0) (h : readT pg no = .ok n) (hl : n.leaf = false) : getT pg k (f + 1) no = getT pg k f (n.kids.getD (kidI n.keys k) 0) := by
  have hl : ¬ n.leaf = true := by rw [hl]; simp
  rw [getT_succ, if_neg h0]; refine (bind_ok h).trans ?_; exact if_neg hl
theorem getTop_err (h : rootT pg = .error e) : getTop pg k = .error e := by unfold getTop; exact bind_err h
theorem getTop_ok (h : rootT pg = .ok no) : getTop pg k = getT pg k 32 no := by unfold getTop; exact bind_ok h
theorem cellOf_at {cells : List Cell} {z : Cell} (h1 : cells[findI (keysOf cells) k]? = some z) (h2 : z.key = k) : cellOf cells k = some z := by
  unfold cellOf; rw [h1]; exact if_pos h2
theorem cellOf_none {cells : List Cell} (h : ¬ (keysOf cells)[findI (keysOf cells) k]? = some k) : cellOf cells k = none := by
  unfold cellOf
  unfold keysOf at h ⊢
  rw [List.getElem?_map] at h
  split
  · rename_i c hc
    refine if_neg fun e => h ?_
    rw [hc, Option.map_some, e]
  · rfl
end
end Go.Pl
end
