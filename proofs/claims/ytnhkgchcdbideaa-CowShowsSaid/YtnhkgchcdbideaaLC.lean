/- Several texts in one. Numbers as bytes, in plain words; and the arithmetic that the program does on them. No program in sight. A number, a text: written, then read. No program in sight. Images: pages that are changed, plainly, as bytes, in memory; laid over pages. No program in sight. Catalogs, in plain words: as the program goes through them, and as the document does. No program in sight. Catalogs as bytes, in plain words. No program in sight. Catalogs read back, in plain words. No program in sight. Snapshots that come and go, in plain words. No program in sight. What may be, as the program goes through it and as the document does, is the same. No program in sight. Side pages: which are taken, which one is free, in plain words. No program in sight. What cow does, plainly. No program in sight. There and back: a catalog that may be is its page's catalog; any bytes are a catalog's page, just its, or none's. No program in sight. The first steps with a catalog, worked out. No program in sight. Side pages taken one by one, worked out. No program in sight. Small facts on catalogs that were cut, changed, compared. No program in sight. Who stands where; catalogs of names. No program in sight. Catalogs that may be, told by their parts; that copies leave them so. No program in sight. A book of pages in memory. No program in sight. What becomes of a book's pages when changes are laid into it. No program in sight. -/
import Derived.Test.YtnhkgchcdbideaaLA
import Derived.Test.YtnhkgchcdbideaaLB
import Derived.KernelRfl

section
namespace Go.Pl
open Go Go.Sx

theorem drop_cons {α : Type} {l : List α} {i : Nat} {x : α} (h : l[i]? = some x) : l.drop i = x :: l.drop (i + 1) := by
  have hi : i < l.length := (List.getElem?_eq_some_iff.1 h).1
  rw [List.getElem?_eq_getElem hi] at h
  rw [← Option.some.inj h]
  exact List.drop_eq_getElem_cons hi
theorem take_succ {α : Type} {l : List α} {i : Nat} {x : α} (h : l[i]? = some x) : l.take (i + 1) = l.take i ++ [x] := by
  have hi : i < l.length := (List.getElem?_eq_some_iff.1 h).1
  rw [List.take_succ_eq_append_getElem hi]
  rw [List.getElem?_eq_getElem hi] at h
  rw [Option.some.inj h]
theorem nth {α : Type} {l : List α} {i : Nat} (h : i < l.length) : ∃ x, l[i]? = some x := ⟨_, List.getElem?_eq_getElem h⟩

def zig (n : Int) : Nat := if n < 0 then (-2 * n - 1).toNat else (2 * n).toNat
def putU (u : Nat) : List UInt8 := if u < 128 then [UInt8.ofNat u] else UInt8.ofNat (u % 128 + 128) :: putU (u / 128)
termination_by u
decreasing_by omega
def put (n : Int) : List UInt8 := putU (zig n)

theorem zig_lt {n : Int} (h1 : -9223372036854775808 ≤ n) (h2 : n ≤ 9223372036854775807) : zig n < 18446744073709551616 := by unfold zig; split <;> omega

theorem not64 (x : Int) (h0 : 0 ≤ x) (h1 : x ≤ 18446744073709551615) :
    IntKind.u64.wrap ((BitVec.ofInt IntKind.u64.bits (if IntKind.u64.signed then -1 else IntKind.u64.max) ^^^ BitVec.ofInt IntKind.u64.bits x).toNat : Int) = 18446744073709551615 - x := by
  show IntKind.u64.wrap (((BitVec.ofInt 64 18446744073709551615 ^^^ BitVec.ofInt 64 x).toNat : Nat) : Int) = _
  have e1 : BitVec.ofInt 64 18446744073709551615 = BitVec.allOnes 64 := by decide
  rw [e1, BitVec.allOnes_xor, BitVec.toNat_not, BitVec.toNat_ofInt, wrap_u64 (by omega) (by omega)]
  omega

theorem or128 : ∀ x : Fin 256, IntKind.u8.wrap ((BitVec.ofInt IntKind.u8.bits (x.val : Int) ||| BitVec.ofInt IntKind.u8.bits 128).toNat : Int) = ((x.val % 128 + 128 : Nat) : Int) := by decide +kernel

theorem u8_mod (u : Nat) : IntKind.u8.wrap (u : Int) = ((u % 256 : Nat) : Int) := by rw [IntKind.wrap_u8]; omega
theorem byteOr (u : Nat) : IntKind.u8.wrap ((BitVec.ofInt IntKind.u8.bits (IntKind.u8.wrap (u : Int)) ||| BitVec.ofInt IntKind.u8.bits 128).toNat : Int) = ((UInt8.ofNat (u % 128 + 128)).toNat : Int) := by
  rw [u8_mod u]
  have := or128 ⟨u % 256, by omega⟩
  simp only at this
  rw [this, UInt8.toNat_ofNat']
  omega
theorem shr7 (u : Nat) : (u : Int).fdiv (2 ^ min (7 : Int).toNat IntKind.u64.bits) = ((u / 128 : Nat) : Int) := by
  have : (2 : Int) ^ min (7 : Int).toNat IntKind.u64.bits = 128 := by decide
  rw [this, Int.fdiv_eq_ediv_of_nonneg _ (by omega)]
  omega
theorem shl1_pos {n : Int} (h0 : 0 ≤ n) (h2 : n ≤ 9223372036854775807) : IntKind.u64.wrap (IntKind.u64.wrap n * 2 ^ min (1 : Int).toNat IntKind.u64.bits) = ((zig n : Nat) : Int) := by
  have : (2 : Int) ^ min (1 : Int).toNat IntKind.u64.bits = 2 := by decide
  rw [this, wrap_u64 h0 (by omega), wrap_u64 (by omega) (by omega)]
  unfold zig
  rw [if_neg (by omega)]
  omega
theorem shl1_neg {n : Int} (h0 : n < 0) (h1 : -9223372036854775808 ≤ n) : IntKind.u64.wrap (IntKind.u64.wrap n * 2 ^ min (1 : Int).toNat IntKind.u64.bits) = 18446744073709551616 + 2 * n := by
  have : (2 : Int) ^ min (1 : Int).toNat IntKind.u64.bits = 2 := by decide
  rw [this, IntKind.wrap_u64, IntKind.wrap_u64]
  omega
theorem putU_length : ∀ (k u : Nat), u < 128 ^ (k + 1) → (putU u).length ≤ k + 1 := by
  intro k
  induction k with
  | zero => intro u h; rw [putU, if_pos (by simpa using h)]; simp
  | succ k ih =>
    intro u h
    rw [putU]
    split
    · simp
    · have : u / 128 < 128 ^ (k + 1) := by
        rw [Nat.div_lt_iff_lt_mul (by omega)]
        rw [Nat.pow_succ] at h
        exact h
      have := ih _ this
      simp only [List.length_cons]
      omega
theorem putU_ten (u : Nat) (h : u < 18446744073709551616) : (putU u).length ≤ 10 := putU_length 9 u (Nat.lt_of_lt_of_le h (by decide))
theorem put_ten {n : Int} (h1 : -9223372036854775808 ≤ n) (h2 : n ≤ 9223372036854775807) : (put n).length ≤ 10 := putU_ten _ (zig_lt h1 h2)
theorem putU_big {u : Nat} (h : ¬ u < 128) : putU u = UInt8.ofNat (u % 128 + 128) :: putU (u / 128) := by rw [putU, if_neg h]
theorem putU_small {u : Nat} (h : u < 128) : putU u = [UInt8.ofNat u] := by rw [putU, if_pos h]
theorem tmod128 (u : Nat) : (u : Int).tmod 128 = ((u % 128 : Nat) : Int) := by rw [Int.tmod_eq_emod_of_nonneg (by omega)]; omega
theorem tdiv128 (u : Nat) : (u : Int).tdiv 128 = ((u / 128 : Nat) : Int) := by rw [Int.tdiv_eq_ediv_of_nonneg (by omega)]; omega
def putText (s : ByteArray) : List UInt8 := put s.size ++ s.data.toList

/-! ### reading a number -/
def unzig (u : Nat) : Int := if u % 2 = 1 then -((u / 2 : Nat) : Int) - 1 else ((u / 2 : Nat) : Int)
def getL : Nat → Nat → List UInt8 → Int × Int × Int
  | _, _, [] => (0, 0, 2)
  | i, u, c :: l =>
    if i = 9 ∧ 1 < c.toNat then (0, 0, 1)
    else if 127 < c.toNat then getL (i + 1) (u + c.toNat % 128 * 128 ^ i) l
    else if 0 < i ∧ c.toNat = 0 then (0, 0, 1)
    else (unzig (u + c.toNat % 128 * 128 ^ i), ((i + 1 : Nat) : Int), 0)
def get (l : List UInt8) : Int × Int × Int := getL 0 0 l

theorem and127 : ∀ x : Fin 256, IntKind.u8.wrap ((BitVec.ofInt IntKind.u8.bits (x.val : Int) &&& BitVec.ofInt IntKind.u8.bits 127).toNat : Int) = ((x.val % 128 : Nat) : Int) := by decide +kernel
theorem byteAnd (c : UInt8) : IntKind.u8.wrap ((BitVec.ofInt IntKind.u8.bits (c.toNat : Int) &&& BitVec.ofInt IntKind.u8.bits 127).toNat : Int) = ((c.toNat % 128 : Nat) : Int) := and127 ⟨c.toNat, c.toNat_lt⟩
theorem ofInt64 {x : Nat} (h : x < 18446744073709551616) : (BitVec.ofInt 64 (x : Int)).toNat = x := by rw [BitVec.toNat_ofInt]; omega
theorem or64 {a b : Nat} (ha : a < 18446744073709551616) (hb : b < 18446744073709551616) :
    IntKind.u64.wrap ((BitVec.ofInt IntKind.u64.bits (a : Int) ||| BitVec.ofInt IntKind.u64.bits (b : Int)).toNat : Int) = ((a ||| b : Nat) : Int) := by
  show IntKind.u64.wrap (((BitVec.ofInt 64 (a : Int) ||| BitVec.ofInt 64 (b : Int)).toNat : Nat) : Int) = _
  rw [BitVec.toNat_or, ofInt64 ha, ofInt64 hb]
  have : a ||| b < 2 ^ 64 := Nat.or_lt_two_pow (by simpa using ha) (by simpa using hb)
  exact wrap_u64 (by omega) (by omega)
theorem and64_1 {a : Nat} (ha : a < 18446744073709551616) : IntKind.u64.wrap ((BitVec.ofInt IntKind.u64.bits (a : Int) &&& BitVec.ofInt IntKind.u64.bits 1).toNat : Int) = ((a % 2 : Nat) : Int) := by
  show IntKind.u64.wrap (((BitVec.ofInt 64 (a : Int) &&& BitVec.ofInt 64 ((1 : Nat) : Int)).toNat : Nat) : Int) = _
  rw [BitVec.toNat_and, ofInt64 ha, ofInt64 (by omega), Nat.and_one_is_mod]
  exact wrap_u64 (by omega) (by omega)
theorem not64i {n : Int} (h0 : 0 ≤ n) (h1 : n ≤ 9223372036854775807) :
    IntKind.i64.wrap ((BitVec.ofInt IntKind.i64.bits (if IntKind.i64.signed then -1 else IntKind.i64.max) ^^^ BitVec.ofInt IntKind.i64.bits n).toNat : Int) = -n - 1 := by
  show IntKind.i64.wrap (((BitVec.ofInt 64 (-1) ^^^ BitVec.ofInt 64 n).toNat : Nat) : Int) = _
  have e1 : BitVec.ofInt 64 (-1) = BitVec.allOnes 64 := by decide
  rw [e1, BitVec.allOnes_xor, BitVec.toNat_not, BitVec.toNat_ofInt, IntKind.wrap_i64]
  omega
theorem p128 (i : Nat) : (128 : Nat) ^ i = 2 ^ (7 * i) := by rw [Nat.pow_mul]
theorem p128_le {i : Nat} (h : i ≤ 9) : (128 : Nat) ^ i ≤ 9223372036854775808 := by
  have : (128 : Nat) ^ i ≤ 128 ^ 9 := Nat.pow_le_pow_right (by omega) h
  have e : (128 : Nat) ^ 9 = 9223372036854775808 := by decide
  omega
theorem get_step {i u : Nat} {c : UInt8} (hi : i ≤ 9) (hu : u < 128 ^ i) (hc : ¬ (i = 9 ∧ 1 < c.toNat)) : u + c.toNat % 128 * 128 ^ i < 18446744073709551616 := by
  have h1 := p128_le hi
  by_cases h9 : i = 9
  · subst h9
    have e : (128 : Nat) ^ 9 = 9223372036854775808 := by decide
    rw [e] at hu ⊢
    have hc1 : c.toNat ≤ 1 := by omega
    have : c.toNat % 128 ≤ 1 := by omega
    omega
  · have h2 : (128 : Nat) ^ (i + 1) ≤ 128 ^ 9 := Nat.pow_le_pow_right (by omega) (by omega)
    have e : (128 : Nat) ^ 9 = 9223372036854775808 := by decide
    rw [e, Nat.pow_succ] at h2
    have h3 : c.toNat % 128 * 128 ^ i ≤ 127 * 128 ^ i := Nat.mul_le_mul_right _ (by omega)
    omega
theorem get_next {i u : Nat} {c : UInt8} (hu : u < 128 ^ i) : u + c.toNat % 128 * 128 ^ i < 128 ^ (i + 1) := by
  rw [Nat.pow_succ]
  have h3 : c.toNat % 128 * 128 ^ i ≤ 127 * 128 ^ i := Nat.mul_le_mul_right _ (by omega)
  omega
theorem get_shl {i : Nat} {x : Nat} (hi : i ≤ 9) (h : x * 128 ^ i < 18446744073709551616) :
    IntKind.u64.wrap (IntKind.u64.wrap (x : Int) * 2 ^ min (IntKind.i64.wrap (7 * (i : Int))).toNat IntKind.u64.bits) = ((x * 128 ^ i : Nat) : Int) := by
  have hpos : 1 ≤ (128 : Nat) ^ i := Nat.one_le_pow _ _ (by omega)
  have hx : x ≤ x * 128 ^ i := Nat.le_mul_of_pos_right _ hpos
  rw [wrap_i64 (by omega) (by omega), wrap_u64 (n := (x : Int)) (by omega) (by omega)]
  have e1 : min (7 * (i : Int)).toNat IntKind.u64.bits = 7 * i := by
    have : IntKind.u64.bits = 64 := rfl
    omega
  rw [e1]
  have e2 : (x : Int) * 2 ^ (7 * i) = ((x * 128 ^ i : Nat) : Int) := by
    rw [p128]; simp
  rw [e2]
  exact wrap_u64 (by omega) (by omega)
theorem get_or {i u x : Nat} (hi : i ≤ 9) (hu : u < 128 ^ i) (h : x * 128 ^ i < 18446744073709551616) :
    IntKind.u64.wrap ((BitVec.ofInt IntKind.u64.bits (u : Int) ||| BitVec.ofInt IntKind.u64.bits ((x * 128 ^ i : Nat) : Int)).toNat : Int) = ((u + x * 128 ^ i : Nat) : Int) := by
  have h1 := p128_le hi
  rw [or64 (by omega) h]
  congr 1
  rw [Nat.add_comm, Nat.or_comm, p128, Nat.mul_comm]
  rw [p128] at hu
  exact (Nat.two_pow_add_eq_or_of_lt hu x).symm
theorem unzig_even {u : Nat} (h : u < 18446744073709551616) : IntKind.i64.wrap ((u : Int).fdiv (2 ^ min (1 : Int).toNat IntKind.u64.bits)) = ((u / 2 : Nat) : Int) := by
  have : (2 : Int) ^ min (1 : Int).toNat IntKind.u64.bits = 2 := by decide
  rw [this, Int.fdiv_eq_ediv_of_nonneg _ (by omega), wrap_i64 (by omega) (by omega)]
  omega
/-- reading a text -/
def getText (l : List UInt8) : ByteArray × Int × Int :=
  match get l with
  | (n, k, e) =>
    if e ≠ 0 then (txt [], 0, e) else if n < 0 ∨ 65536 < n then (txt [], 0, 1)
    else if (l.length : Int) - k < n then (txt [], 0, 2) else (txt ((l.take (k + n).toNat).drop k.toNat), k + n, 0)
def cutS (s : ByteArray) (n : Nat) : ByteArray := if n < s.size then s.extract 0 n else s
def nameB (s : ByteArray) : Bool := decide (1 ≤ s.size ∧ s.size ≤ 8)
theorem size_zero_iff (s : ByteArray) : s.size = 0 ↔ s = ⟨#[]⟩ := by
  constructor
  · intro h; cases s with | mk d => congr 1; exact Array.eq_empty_of_size_eq_zero h
  · intro h; subst h; rfl
theorem getL_k : ∀ (l : List UInt8) (i u : Nat), (getL i u l).2.2 = 0 → (i : Int) < (getL i u l).2.1 ∧ (getL i u l).2.1 ≤ (i : Int) + l.length := by
  intro l
  induction l with
  | nil => intro i u h; simp [getL] at h
  | cons c l ih =>
    intro i u
    rw [getL]
    split
    · intro h; simp at h
    · split
      · intro h
        have := ih _ _ h
        simp only [List.length_cons]
        omega
      · split
        · intro h; simp at h
        · intro _; simp only [List.length_cons]; omega
theorem get_k {l : List UInt8} (h : (get l).2.2 = 0) : 0 < (get l).2.1 ∧ (get l).2.1 ≤ l.length := by
  have := getL_k l 0 0 h
  unfold get
  omega
end Go.Pl
end

section
namespace Go.Pl
open Go Go.Sx
theorem unzig_zig (n : Int) : unzig (zig n) = n := by
  unfold unzig zig
  split <;> split <;> omega
theorem getL_putU : ∀ (k i u base : Nat) (rest : List UInt8), i + k = 9 → u < 2 * 128 ^ k → (i = 0 ∨ 0 < u) →
    getL i base (putU u ++ rest) = (unzig (base + u * 128 ^ i), ((i + (putU u).length : Nat) : Int), 0) := by
  intro k
  induction k with
  | zero =>
    intro i u base rest hi hu h0
    have hu2 : u < 2 := by simpa using hu
    rw [putU_small (by omega)]
    have hc : (UInt8.ofNat u).toNat = u := by rw [UInt8.toNat_ofNat']; omega
    show getL i base (UInt8.ofNat u :: rest) = _
    rw [getL, hc, if_neg (by omega), if_neg (by omega), if_neg (by omega), show u % 128 = u by omega]
    rfl
  | succ k ih =>
    intro i u base rest hi hu h0
    by_cases hb : u < 128
    · rw [putU_small hb]
      have hc : (UInt8.ofNat u).toNat = u := by rw [UInt8.toNat_ofNat']; omega
      show getL i base (UInt8.ofNat u :: rest) = _
      rw [getL, hc, if_neg (by omega), if_neg (by omega), if_neg (by omega), show u % 128 = u by omega]
      rfl
    · rw [putU_big hb]
      have hc : (UInt8.ofNat (u % 128 + 128)).toNat = u % 128 + 128 := by rw [UInt8.toNat_ofNat']; omega
      show getL i base (UInt8.ofNat (u % 128 + 128) :: (putU (u / 128) ++ rest)) = _
      rw [getL, hc, if_neg (by omega), if_pos (by omega)]
      rw [ih (i + 1) (u / 128) _ rest (by omega) (by rw [Nat.pow_succ] at hu; omega) (by omega)]
      have e1 : (u % 128 + 128) % 128 = u % 128 := by omega
      rw [e1, Nat.pow_succ]
      have e2 : base + u % 128 * 128 ^ i + u / 128 * (128 ^ i * 128) = base + u * 128 ^ i := by
        have : u * 128 ^ i = u % 128 * 128 ^ i + u / 128 * (128 ^ i * 128) := by
          conv => lhs; rw [← Nat.mod_add_div u 128]
          rw [Nat.add_mul, Nat.mul_comm 128 (u / 128), Nat.mul_assoc, Nat.mul_comm 128 (128 ^ i)]
        omega
      rw [e2]
      simp only [List.length_cons]
      congr 2
      omega
theorem get_put {n : Int} (h1 : -9223372036854775808 ≤ n) (h2 : n ≤ 9223372036854775807) (rest : List UInt8) : get (put n ++ rest) = (n, ((put n).length : Int), 0) := by
  unfold get put
  rw [getL_putU 9 0 (zig n) 0 rest rfl (Nat.lt_of_lt_of_le (zig_lt h1 h2) (by decide)) (.inl rfl)]
  simp [unzig_zig]
theorem putText_length (s : ByteArray) : (putText s).length = (put s.size).length + s.size := by
  unfold putText; rw [List.length_append]; congr 1
theorem getText_put {s : ByteArray} (h : s.size ≤ 65536) (rest : List UInt8) : getText (putText s ++ rest) = (s, ((putText s).length : Int), 0) := by
  have hsz : s.data.toList.length = s.size := Array.length_toList
  have hlen := putText_length s
  unfold getText
  have e : putText s ++ rest = put s.size ++ (s.data.toList ++ rest) := by unfold putText; rw [List.append_assoc]
  rw [e, get_put (by omega) (by omega)]
  dsimp only
  rw [if_neg (by omega), if_neg (by omega), if_neg (by simp only [List.length_append]; omega)]
  have e2 : ((put s.size).length + (s.size : Int)).toNat = (put s.size).length + s.size := by omega
  have e3 : (((put s.size).length : Int)).toNat = (put s.size).length := by omega
  rw [e2, e3]
  have e4 : ((put s.size ++ (s.data.toList ++ rest)).take ((put s.size).length + s.size)).drop (put s.size).length = s.data.toList := by
    rw [List.take_length_add_append, List.drop_left, ← hsz, List.take_left]
  rw [e4, hlen]
  congr 2
end Go.Pl
end

section
namespace Go.Pl
open Go Go.Sx

theorem ones_bytes (l : List UInt8) : ones (l.flatMap encB) = true := bytes_ones (fun _ => rfl) l
def noughts (n : Nat) : List UInt8 := List.replicate n 0
theorem noughts_length (a : Nat) : (noughts a).length = a := List.length_replicate
def mayPage (no : Int) : Prop := 0 ≤ no ∧ no < 96
instance (no : Int) : Decidable (mayPage no) := by unfold mayPage; exact inferInstance
def pageOf (b : List UInt8) : List UInt8 := b ++ noughts (256 - b.length)
theorem pageOf_length {b : List UInt8} (h : b.length ≤ 256) : (pageOf b).length = 256 := by unfold pageOf; rw [List.length_append, noughts_length]; omega
/-- one page's bytes are others -/
def upd (now : Int → List UInt8) (no : Int) (b : List UInt8) : Int → List UInt8 := fun k => if k = no then b else now k
/-- an image: its page, its bytes -/
abbrev Img := Int × List UInt8
def MayImgs (l : List Img) : Prop := l ≠ [] ∧ (∀ x ∈ l, mayPage x.1 ∧ x.2.length = 256) ∧ l.Pairwise fun x y => x.1 < y.1
noncomputable instance (l : List Img) : Decidable (MayImgs l) := Classical.propDecidable _
/-- as far as the first i -/
def MayTo (l : List Img) (i : Nat) : Prop := (∀ x ∈ l.take i, mayPage x.1 ∧ x.2.length = 256) ∧ (l.take i).Pairwise fun x y => x.1 < y.1
theorem MayTo.zero (l : List Img) : MayTo l 0 := ⟨by simp, by simp⟩
theorem MayTo.step {l : List Img} {i : Nat} {x : Img} (h : MayTo l i) (hx : l[i]? = some x) (h1 : mayPage x.1) (h2 : x.2.length = 256) (h3 : ∀ j y, i = j + 1 → l[j]? = some y → y.1 < x.1) : MayTo l (i + 1) := by
  have hs := take_succ hx
  refine ⟨fun y hy => ?_, ?_⟩
  · rw [hs] at hy
    rcases List.mem_append.1 hy with hy | hy
    · exact h.1 y hy
    · rw [List.mem_singleton] at hy; subst hy; exact ⟨h1, h2⟩
  · rw [hs, List.pairwise_append]
    refine ⟨h.2, by simp, fun a ha c hc => ?_⟩
    rw [List.mem_singleton] at hc; subst hc
    match i, h, h3, ha with
    | 0, _, _, ha => simp at ha
    | j + 1, h, h3, ha =>
      have hj : j < l.length := by have := (List.getElem?_eq_some_iff.1 hx).1; omega
      obtain ⟨y, hy⟩ := nth hj
      have hyx := h3 j y rfl hy
      have hp := h.2
      rw [take_succ hy] at ha hp
      rw [List.pairwise_append] at hp
      rcases List.mem_append.1 ha with ha | ha
      · have := hp.2.2 a ha y (by simp); omega
      · rw [List.mem_singleton] at ha; subst ha; exact hyx
theorem MayTo.all {l : List Img} (h : MayTo l l.length) (hne : 0 < l.length) : MayImgs l := by
  have h1 := h.1; have h2 := h.2
  rw [List.take_length] at h1 h2
  exact ⟨by intro e; subst e; simp at hne, h1, h2⟩
theorem MayImgs.adj {l : List Img} (h : MayImgs l) {j : Nat} {x y : Img} (hx : l[j]? = some x) (hy : l[j + 1]? = some y) : x.1 < y.1 := by
  obtain ⟨h1, e1⟩ := List.getElem?_eq_some_iff.1 hx
  obtain ⟨h2, e2⟩ := List.getElem?_eq_some_iff.1 hy
  have := List.pairwise_iff_getElem.1 h.2.2 j (j + 1) h1 h2 (by omega)
  rwa [e1, e2] at this
theorem asc_length : ∀ {l : List Img} {a : Int}, 0 ≤ a → a ≤ 96 → (∀ x ∈ l, a ≤ x.1 ∧ x.1 < 96) → (l.Pairwise fun x y => x.1 < y.1) → (l.length : Int) ≤ 96 - a := by
  intro l
  induction l with
  | nil => intro a h0 h1 _ _; simp; omega
  | cons x l ih =>
    intro a h0 h1 h hp
    obtain ⟨a1, a2⟩ := h x (by simp)
    rw [List.pairwise_cons] at hp
    have := ih (a := x.1 + 1) (by omega) (by omega) (fun y hy => ⟨by have := hp.1 y hy; omega, (h y (by simp [hy])).2⟩) hp.2
    simp only [List.length_cons]; omega
theorem MayImgs.few {l : List Img} (h : MayImgs l) : l.length ≤ 96 := by
  have := asc_length (l := l) (a := 0) (by omega) (by omega) (fun x hx => (h.2.1 x hx).1) h.2.2
  omega
theorem MayImgs.pos {l : List Img} (h : MayImgs l) : 0 < l.length := by
  cases l with
  | nil => exact absurd rfl h.1
  | cons x l => simp

/-! ### noughts at the end -/
def trim : List UInt8 → List UInt8
  | [] => []
  | c :: l => if trim l = [] ∧ c = 0 then [] else c :: trim l
theorem trim_snoc0 : ∀ (l : List UInt8), trim (l ++ [0]) = trim l := by
  intro l
  induction l with
  | nil => rfl
  | cons c l ih => rw [List.cons_append, trim, trim, ih]
theorem trim_snoc {c : UInt8} (hc : c ≠ 0) : ∀ (l : List UInt8), trim (l ++ [c]) = l ++ [c] := by
  intro l
  induction l with
  | nil => rw [List.nil_append, trim, if_neg (by simpa [trim] using hc)]; rfl
  | cons d l ih =>
    rw [List.cons_append, trim, ih, if_neg (by simp)]
theorem trim_length (l : List UInt8) : (trim l).length ≤ l.length := by
  induction l with
  | nil => simp [trim]
  | cons c l ih => rw [trim]; split <;> simp; omega
theorem trim_fill (l : List UInt8) : trim l ++ noughts (l.length - (trim l).length) = l := by
  induction l with
  | nil => rfl
  | cons c l ih =>
    rw [trim]
    split
    · rename_i h
      obtain ⟨h1, h2⟩ := h
      rw [h1] at ih
      simp only [List.length_nil, Nat.sub_zero, List.nil_append, List.length_cons] at ih ⊢
      rw [h2, show noughts (l.length + 1) = 0 :: noughts l.length from rfl, ih]
    · simp only [List.length_cons, List.cons_append, Nat.add_sub_add_right, ih]
theorem pageOf_trim {l : List UInt8} (h : l.length = 256) : pageOf (trim l) = l := by
  unfold pageOf
  have := trim_fill l
  rwa [h] at this

/-! ### images as bytes -/
def encOne (x : Img) : List UInt8 := put x.1 ++ putText (txt (trim x.2))
def encImgs (l : List Img) : List UInt8 := put (l.length : Int) ++ l.flatMap encOne
theorem putText_txt (l : List UInt8) : putText (txt l) = put (l.length : Int) ++ l := rfl
theorem put_length (n : Int) : 1 ≤ (put n).length := by unfold put; rw [putU]; split <;> simp
theorem put_len {n : Int} (h0 : 0 ≤ n) (h1 : n ≤ 65536) : 1 ≤ (put n).length ∧ (put n).length ≤ 10 := ⟨put_length n, put_ten (by omega) (by omega)⟩
theorem encOne_length {x : Img} (h : mayPage x.1 ∧ x.2.length = 256) : 1 ≤ (encOne x).length ∧ (encOne x).length ≤ 276 := by
  obtain ⟨⟨h0, h1⟩, h2⟩ := h
  have ht := trim_length x.2
  have a := put_len (n := x.1) h0 (by omega)
  have b := put_len (n := ((trim x.2).length : Int)) (by omega) (by omega)
  unfold encOne
  rw [putText_txt, List.length_append, List.length_append]
  omega
theorem encAll_length : ∀ {l : List Img}, (∀ x ∈ l, mayPage x.1 ∧ x.2.length = 256) → (l.flatMap encOne).length ≤ 276 * l.length := by
  intro l
  induction l with
  | nil => intro _; simp
  | cons x l ih =>
    intro h
    rw [List.flatMap_cons, List.length_append, List.length_cons]
    have := (encOne_length (h x (by simp))).2
    have := ih fun y hy => h y (by simp [hy])
    omega
theorem encImgs_length {l : List Img} (h : MayImgs l) : 1 ≤ (encImgs l).length ∧ (encImgs l).length ≤ 26506 := by
  have := encAll_length h.2.1
  have hf := h.few
  have a := put_len (n := (l.length : Int)) (by omega) (by omega)
  unfold encImgs
  rw [List.length_append]
  omega
theorem get_one {x : Img} (h : mayPage x.1) (rest : List UInt8) : get (encOne x ++ rest) = (x.1, ((put x.1).length : Int), 0) := by
  have := h.1; have := h.2
  unfold encOne
  rw [List.append_assoc]
  exact get_put (by omega) (by omega) _
theorem text_one {x : Img} (h : x.2.length = 256) (rest : List UInt8) : getText ((encOne x ++ rest).drop (put x.1).length) = (txt (trim x.2), ((putText (txt (trim x.2))).length : Int), 0) := by
  have ht := trim_length x.2
  unfold encOne
  rw [List.append_assoc, List.drop_left]
  refine getText_put ?_ rest
  show (trim x.2).length ≤ 65536
  omega

/-! ### laid over pages -/
abbrev Pages := Int → List UInt8
def lay (P : Pages) (l : List Img) : Pages := l.foldl (fun P x => upd P x.1 x.2) P
def layAll (P : Pages) (rss : List (List Img)) : Pages := rss.foldl lay P
def EqP (P P' : Pages) : Prop := ∀ no, mayPage no → P no = P' no
theorem EqP.refl (P : Pages) : EqP P P := fun _ _ => rfl
theorem EqP.symm {P P' : Pages} (h : EqP P P') : EqP P' P := fun no hn => (h no hn).symm
theorem EqP.trans {P P' P'' : Pages} (h : EqP P P') (h' : EqP P' P'') : EqP P P'' := fun no hn => (h no hn).trans (h' no hn)
theorem EqP.upd {P P' : Pages} (h : EqP P P') (no : Int) (b : List UInt8) : EqP (upd P no b) (upd P' no b) := fun k hk => by
  unfold Go.Pl.upd; split
  · rfl
  · exact h k hk
theorem EqP.lay : ∀ {l : List Img} {P P' : Pages}, EqP P P' → EqP (lay P l) (lay P' l) := by
  intro l
  induction l with
  | nil => intro P P' h; exact h
  | cons x l ih => intro P P' h; exact ih (h.upd _ _)
theorem lay_snoc (P : Pages) (l : List Img) (x : Img) : lay P (l ++ [x]) = upd (lay P l) x.1 x.2 := by unfold lay; rw [List.foldl_append]; rfl
theorem layAll_snoc (P : Pages) (rss : List (List Img)) (l : List Img) : layAll P (rss ++ [l]) = lay (layAll P rss) l := by unfold layAll; rw [List.foldl_append]; rfl
theorem layAll_flat (P : Pages) : ∀ (rss : List (List Img)), layAll P rss = lay P rss.flatten := by
  intro rss
  induction rss generalizing P with
  | nil => rfl
  | cons l rss ih =>
    show layAll (lay P l) rss = _
    rw [ih, List.flatten_cons]
    unfold lay; rw [List.foldl_append]
def Touches (l : List Img) (no : Int) : Prop := ∃ x ∈ l, x.1 = no
theorem Touches.append {l m : List Img} {no : Int} : Touches (l ++ m) no ↔ Touches l no ∨ Touches m no := by
  unfold Touches; simp only [List.mem_append]
  constructor
  · rintro ⟨x, h | h, e⟩
    · exact .inl ⟨x, h, e⟩
    · exact .inr ⟨x, h, e⟩
  · rintro (⟨x, h, e⟩ | ⟨x, h, e⟩)
    · exact ⟨x, .inl h, e⟩
    · exact ⟨x, .inr h, e⟩
theorem lay_off : ∀ {l : List Img} {P : Pages} {no : Int}, ¬ Touches l no → lay P l no = P no := by
  intro l
  induction l with
  | nil => intro P no _; rfl
  | cons x l ih =>
    intro P no h
    show lay (upd P x.1 x.2) l no = _
    rw [ih fun ⟨y, hy, e⟩ => h ⟨y, by simp [hy], e⟩]
    unfold upd
    rw [if_neg fun e => h ⟨x, by simp, e.symm⟩]
theorem lay_on : ∀ {l : List Img} {P P' : Pages} {no : Int}, Touches l no → lay P l no = lay P' l no := by
  intro l
  induction l with
  | nil => intro P P' no ⟨x, hx, _⟩; cases hx
  | cons x l ih =>
    intro P P' no h
    by_cases ht : Touches l no
    · exact ih ht
    · show lay (upd P x.1 x.2) l no = lay (upd P' x.1 x.2) l no
      rw [lay_off ht, lay_off ht]
      obtain ⟨y, hy, e⟩ := h
      rcases List.mem_cons.1 hy with rfl | hy
      · unfold upd; rw [if_pos e.symm, if_pos e.symm]
      · exact absurd ⟨y, hy, e⟩ ht
theorem lay_len : ∀ {l : List Img} {P : Pages}, (∀ no, mayPage no → (P no).length = 256) → (∀ x ∈ l, mayPage x.1 ∧ x.2.length = 256) → ∀ no, mayPage no → (lay P l no).length = 256 := by
  intro l
  induction l with
  | nil => intro P h _; exact h
  | cons x l ih =>
    intro P h hl
    refine ih (P := upd P x.1 x.2) (fun no hn => ?_) fun y hy => hl y (by simp [hy])
    unfold upd; split
    · exact (hl x (by simp)).2
    · exact h no hn
theorem txt_cut (l : List UInt8) (n : Nat) : (txt l).extract 0 n = txt (l.take n) := by
  apply ByteArray.ext
  rw [ByteArray.data_extract]
  apply Array.ext'
  simp
structure Im where
  no : Int
  v : Value
  b : List UInt8
def encIm (x : Im) : List Value := [.int .i64 x.no, x.v]
def Im.img (x : Im) : Img := (x.no, x.b)
def imgs (ts : List Im) : List Img := ts.map Im.img
/-- images that can be read -/
structure ImsAt (hs : List Chunk) (v : Value) (ts : List Im) : Prop where
  row : Row encIm 2 hs v ts
  each : ∀ t ∈ ts, Row encB 1 hs t.v t.b
  few : ts.length ≤ 9223372036854775807
  len : ∀ t ∈ ts, t.b.length ≤ 9223372036854775807
theorem ImsAt.mono {hs hs' : List Chunk} {v : Value} {ts : List Im} (h : ImsAt hs v ts) (hh : ∀ b o, Has hs b o → Has hs' b o) : ImsAt hs' v ts := ⟨h.row.mono hh, fun t ht => (h.each t ht).mono hh, h.few, h.len⟩
theorem ImsAt.there {A : Chunk} {hs : List Chunk} {v : Value} {ts : List Im} (h : ImsAt hs v ts) : ImsAt (A :: hs) v ts := h.mono fun _ _ => .there
theorem imgs_at {ts : List Im} {i : Nat} {t : Im} (h : ts[i]? = some t) : (imgs ts)[i]? = some t.img := by unfold imgs; rw [List.getElem?_map, h]; rfl
theorem imgs_length (ts : List Im) : (imgs ts).length = ts.length := List.length_map _
theorem imgs_take (ts : List Im) (i : Nat) : imgs (ts.take i) = (imgs ts).take i := by unfold imgs; rw [List.map_take]
theorem imgs_append (ts us : List Im) : imgs (ts ++ us) = imgs ts ++ imgs us := by unfold imgs; rw [List.map_append]
theorem oneC_slice {α : Type} {enc : α → List Value} {sz : Nat} {hs : List Chunk} {v : Value} {xs : List α} (h : Row enc sz hs v xs) : oneC v = true := by
  obtain ⟨a, c, rfl⟩ := h.len; rfl
theorem _root_.Go.Sx.Own.oneC {α : Type} {enc : α → List Value} {sz e : Nat} {v : Value} {xs : List α} {H : Chunk} (h : Own enc sz e v xs H) : oneC v = true := oneC_slice (h.row (hs := []))
/-- images of one's own: each with its chunk -/
abbrev It := Im × Chunk
def itChunk (us : List It) : Chunk := (us.map (·.2)).flatten
theorem itChunk_snoc (us : List It) (u : It) : itChunk (us ++ [u]) = itChunk us ++ u.2 := by unfold itChunk; simp
structure OwnIms (tI tU : Nat) (v : Value) (ts : List Im) (H : Chunk) : Prop where
  is : ∃ us K, us.map (·.1) = ts ∧ (∀ u ∈ us, Own encB 1 tU u.1.v u.1.b u.2) ∧ Own encIm 2 tI v ts K ∧ H = K ++ itChunk us
theorem has_split {A B : Chunk} {hs : List Chunk} {b : Nat} {o : Obj} (h : Has (A :: B :: hs) b o) : Has ((A ++ B) :: hs) b o :=
  Has.of_mem (by have := h.mem; simpa using this)
theorem has_in {us : List It} {u : It} (hu : u ∈ us) {hs : List Chunk} {b : Nat} {o : Obj} (h : Has [u.2] b o) : Has (itChunk us :: hs) b o := by
  refine .here ?_
  have hm := h.mem
  simp only [List.flatten_cons, List.flatten_nil, List.append_nil] at hm
  unfold itChunk
  exact List.mem_flatten.2 ⟨u.2, List.mem_map.2 ⟨u, hu, rfl⟩, hm⟩
theorem has_one_there {A : Chunk} {hs : List Chunk} {b : Nat} {o : Obj} (h : Has [A] b o) : Has (A :: hs) b o := Has.of_mem (by have := h.mem; simp at this; simp [this])
theorem OwnIms.at {tI tU : Nat} {v : Value} {ts : List Im} {H : Chunk} (h : OwnIms tI tU v ts H) (hf : ts.length ≤ 9223372036854775807) (hl : ∀ t ∈ ts, t.b.length ≤ 9223372036854775807) {hs : List Chunk} : ImsAt (H :: hs) v ts := by
  obtain ⟨us, K, rfl, h2, h3, rfl⟩ := h.is
  refine ⟨(h3.row (hs := [])).mono fun b o hb => has_split (has_one_there hb), fun t ht => ?_, hf, hl⟩
  obtain ⟨u, hu, rfl⟩ := List.mem_map.1 ht
  exact ((h2 u hu).row (hs := [])).mono fun b o hb => has_split (.there (has_in hu hb))
structure Raw where
  no : Int
  v : Value
  b : List UInt8
  odd : Bool
def encRaw (x : Raw) : List Value := [.int .i64 x.no, x.v, .bool x.odd]
structure RawsAt (hs : List Chunk) (v : Value) (ts : List Raw) : Prop where
  row : Row encRaw 3 hs v ts
  each : ∀ t ∈ ts, Row encB 1 hs t.v t.b
  few : ts.length ≤ 9223372036854775807
theorem RawsAt.mono {hs hs' : List Chunk} {v : Value} {ts : List Raw} (h : RawsAt hs v ts) (hh : ∀ b o, Has hs b o → Has hs' b o) : RawsAt hs' v ts := ⟨h.row.mono hh, fun t ht => (h.each t ht).mono hh, h.few⟩
theorem RawsAt.there {A : Chunk} {hs : List Chunk} {v : Value} {ts : List Raw} (h : RawsAt hs v ts) : RawsAt (A :: hs) v ts := h.mono fun _ _ => .there
/-- an operation on a core, as a law is handed it -/
structure COp where
  kind : Int
  no : Int
  v : Value
  l : List Raw
  k : Value
  keep : List Bool
def encCOp (o : COp) : List Value := [.int .i64 o.kind, .int .i64 o.no, o.v, o.k]
structure COpAt (hs : List Chunk) (o : COp) : Prop where
  kind : -9223372036854775808 ≤ o.kind ∧ o.kind ≤ 9223372036854775807
  no : -9223372036854775808 ≤ o.no ∧ o.no ≤ 9223372036854775807
  raws : RawsAt hs o.v o.l
  keep : Row encBool 1 hs o.k o.keep
def rawBytes (x : Raw) : List UInt8 := if x.odd = false ∧ (x.b.take 260).length ≤ 256 then pageOf (x.b.take 260) else x.b.take 260
def rawImgs (ts : List Raw) (n : Nat) : List Img := (ts.take n).map fun x => (x.no, rawBytes x)
theorem rawImgs_succ {ts : List Raw} {i : Nat} {x : Raw} (h : ts[i]? = some x) : rawImgs ts (i + 1) = rawImgs ts i ++ [(x.no, rawBytes x)] := by unfold rawImgs; rw [take_succ h, List.map_append]; rfl
theorem rawImgs_end {ts : List Raw} {i n : Nat} (h1 : i ≤ ts.length) (h2 : i ≤ n) (h3 : i = ts.length ∨ i = n) : rawImgs ts i = rawImgs ts n := by
  rcases h3 with h3 | h3
  · unfold rawImgs; rw [List.take_of_length_le (by omega), List.take_of_length_le (by omega)]
  · rw [h3]
theorem rawBytes_short (x : Raw) : (rawBytes x).length ≤ 260 := by
  have : (x.b.take 260).length ≤ 260 := by rw [List.length_take]; omega
  unfold rawBytes
  split
  · rename_i h; rw [pageOf_length h.2]; omega
  · exact this
/-- images: a slice of one's own, the bytes in a chunk beside it or ahead of the call -/
structure MixAt (tI : Nat) (hs : List Chunk) (v : Value) (l : List Img) (K E : Chunk) : Prop where
  is : ∃ ts, imgs ts = l ∧ Own encIm 2 tI v ts K ∧ ∀ t ∈ ts, Row encB 1 (E :: hs) t.v t.b
theorem MixAt.ims {tI : Nat} {hs : List Chunk} {v : Value} {l : List Img} {K E : Chunk} (h : MixAt tI hs v l K E) (hf : l.length ≤ 1000) (hl : ∀ x ∈ l, x.2.length ≤ 1000) : ∃ ts, imgs ts = l ∧ ImsAt (K :: E :: hs) v ts := by
  obtain ⟨ts, rfl, h1, h2⟩ := h.is
  rw [imgs_length] at hf
  refine ⟨ts, rfl, h1.row, fun t ht => (h2 t ht).there, by omega, fun t ht => ?_⟩
  have := hl t.img (List.mem_map.2 ⟨t, ht, rfl⟩)
  have : t.b.length ≤ 1000 := this
  omega
theorem rawImgs_few (ts : List Raw) {n : Nat} (h : n ≤ 1000) : (rawImgs ts n).length ≤ 1000 := by unfold rawImgs; rw [List.length_map, List.length_take]; omega
theorem rawImgs_short (ts : List Raw) (n : Nat) : ∀ x ∈ rawImgs ts n, x.2.length ≤ 1000 := fun x hx => by
  obtain ⟨t, _, rfl⟩ := List.mem_map.1 hx
  have := rawBytes_short t
  dsimp only; omega
theorem Row.more {α : Type} {enc : α → List Value} {sz : Nat} {A B : Chunk} {hs : List Chunk} {v : Value} {xs : List α} (h : Row enc sz (A :: hs) v xs) : Row enc sz ((A ++ B) :: hs) v xs :=
  h.mono fun b o hb => Has.of_mem (by have := hb.mem; simp only [List.flatten_cons, List.mem_append] at this ⊢; rcases this with h | h; exact .inl (.inl h); exact .inr h)
theorem Row.last {α : Type} {enc : α → List Value} {sz : Nat} {A B : Chunk} {hs : List Chunk} {v : Value} {xs : List α} (h : Row enc sz (B :: hs) v xs) : Row enc sz ((A ++ B) :: hs) v xs :=
  h.mono fun b o hb => Has.of_mem (by have := hb.mem; simp only [List.flatten_cons, List.mem_append] at this ⊢; rcases this with h | h; exact .inl (.inr h); exact .inr h)

theorem Has.sel {hs hs' : List Chunk} (h : Sel hs' hs) {b : Nat} {o : Obj} (hb : Has hs b o) : Has hs' b o := by
  obtain ⟨rest, hp⟩ := h.perm
  exact Has.of_mem (hp.mem_iff.2 (List.mem_append_left _ hb.mem))

/-! ### all pages as strings -/
def strsOf (P : Pages) : List Value := (List.range 96).map fun k : Nat => .string (txt (P (k : Nat)))
theorem strsOf_length (P : Pages) : (strsOf P).length = 96 := by unfold strsOf; simp
theorem strsOf_at (P : Pages) {k : Nat} (h : k < 96) : (strsOf P)[k]? = some (.string (txt (P (k : Nat)))) := by
  unfold strsOf; rw [List.getElem?_map, List.getElem?_range h]; rfl
theorem strsOf_eq {P Q : Pages} (h : EqP P Q) : strsOf P = strsOf Q := by
  unfold strsOf
  refine List.map_congr_left fun k hk => ?_
  rw [List.mem_range] at hk
  rw [h (k : Nat) ⟨by omega, by omega⟩]
theorem strsOf_ones (P : Pages) : ones (strsOf P) = true := by
  unfold ones strsOf
  rw [List.all_eq_true]
  intro x hx
  obtain ⟨k, _, rfl⟩ := List.mem_map.1 hx
  rfl
theorem strsOf_set (P : Pages) {k : Nat} (h : k < 96) (b : List UInt8) : splice (strsOf P) k [.string (txt b)] = strsOf (upd P (k : Nat) b) := by
  have e : splice (strsOf P) k [.string (txt b)] = (strsOf P).set k (.string (txt b)) := by
    unfold splice
    rw [List.set_eq_take_append_cons_drop, if_pos (by rw [strsOf_length]; exact h), List.append_assoc]
    rfl
  rw [e]
  apply List.ext_getElem?
  intro j
  by_cases hj : j < 96
  · rw [strsOf_at _ hj]
    unfold upd
    by_cases he : j = k
    · subst he; rw [List.getElem?_set_self (by rw [strsOf_length]; exact h), if_pos rfl]
    · rw [List.getElem?_set_ne (fun e => he e.symm), strsOf_at _ hj, if_neg (by omega)]
  · rw [List.getElem?_eq_none (by rw [List.length_set, strsOf_length]; omega), List.getElem?_eq_none (by rw [strsOf_length]; omega)]
theorem txt_inj {a b : List UInt8} (h : txt a = txt b) : a = b := by
  have := congrArg (fun x : ByteArray => x.data.toList) h
  exact this
/-- a field of what lies at ad, a slice or a single cell -/
theorem El.at2 [Outer] {α : Type} {enc : α → List Value} {sz : Nat} {hs : List Chunk} {P : Program} {x : α} {ad : Addr} (h : El enc sz hs x ad) : ∃ b o, ad = ⟨b, o, none⟩ ∧
    (∀ {T : Tab}, T.ok P → ∀ {t : Nat} {d : TypeDesc}, ty T t = some (.one d) → ∀ {j : Nat} {v : Value}, (enc x)[j]? = some v → Ld P hs t ⟨b, o + j, none⟩ v) ∧
    (∀ {T : Tab}, T.ok P → ∀ {t e' s' : Nat}, ty T t = some (.slice e' s') → ∀ {j : Nat} {v : Value}, (enc x)[j]? = some v → Ld P hs t ⟨b, o + j, none⟩ v) := by
  obtain ⟨h1, b, o, cs, t', fr, rfl, hb, hr⟩ := h
  have key : ∀ {j : Nat} {v : Value}, (enc x)[j]? = some v → cs[o + j]? = some v := by
    intro j v hj
    rw [← hr, List.getElem?_take] at hj
    split at hj
    · rw [List.getElem?_drop] at hj; exact hj
    · cases hj
  exact ⟨b, o, rfl, fun hT t d ht j v hj => Ld.one hT ht hb (key hj), fun hT t e' s' ht j v hj => Ld.slc hT ht hb (key hj)⟩
theorem splice_at {vs : List Value} {k : Nat} (h : k < vs.length) (v : Value) {o : Nat} (ho : o = k) : splice vs o [v] = vs.set k v := by
  subst ho
  unfold splice
  rw [List.set_eq_take_append_cons_drop, if_pos h, List.append_assoc]
  rfl
theorem raws3 {hs : List Chunk} {v0 v1 : Value} {l0 l1 : List Raw} (h0 : RawsAt hs v0 l0) (h1 : RawsAt hs v1 l1) {i : Nat} (hi : i < 3) : ∃ x ts, ([v0, v1, v0] : List Value)[i]? = some x ∧ RawsAt hs x ts :=
  match i, hi with
  | 0, _ => ⟨_, _, rfl, h0⟩
  | 1, _ => ⟨_, _, rfl, h1⟩
  | 2, _ => ⟨_, _, rfl, h0⟩
theorem strsOf_all {cs : List Value} (hl : cs.length = 96) {P : Pages} (h : ∀ k : Nat, k < 96 → cs[k]? = some (.string (txt (P (k : Nat))))) : cs = strsOf P := by
  apply List.ext_getElem?
  intro j
  by_cases hj : j < 96
  · rw [h j hj, strsOf_at _ hj]
  · rw [List.getElem?_eq_none (by omega), List.getElem?_eq_none (by rw [strsOf_length]; omega)]
end Go.Pl
end

section
namespace Go.Pl
open Go Go.Sx

structure Snap where
  name : ByteArray
  id : Int
  inv : Bool
  map : List Int
def encSnap (s : Snap) : List Value := .string s.name :: .int .i64 s.id :: .bool s.inv :: s.map.map (Value.int .i64)
theorem len_snap (s : Snap) : (encSnap s).length = s.map.length + 3 := by simp [encSnap]
theorem map32 {s : Snap} (h : (encSnap s).length = 35) : s.map.length = 32 := by rw [len_snap] at h; omega
theorem ones_snap (s : Snap) : ones (encSnap s) = true := by
  unfold ones encSnap
  simp [oneC]
theorem ones_snaps (l : List Snap) : ones (l.flatMap encSnap) = true := by
  unfold ones
  rw [List.all_eq_true]
  intro x hx
  obtain ⟨s, _, h⟩ := List.mem_flatMap.1 hx
  have := ones_snap s
  unfold ones at this
  exact List.all_eq_true.1 this x h
theorem snap_map {s : Snap} (h : (encSnap s).length = 35) : ((encSnap s).drop 3).take (32 * 1) = s.map.map (Value.int .i64) := by
  show (s.map.map (Value.int .i64)).take (32 * 1) = _
  rw [List.take_of_length_le (by rw [List.length_map, map32 h]; omega)]

theorem snap_at {s : Snap} {i : Nat} {x : Int} (h : s.map[i]? = some x) : (encSnap s)[0 + 3 + (i : Int).toNat * 1]? = some (.int .i64 x) := by
  have e : 0 + 3 + (i : Int).toNat * 1 = i + 3 := by omega
  rw [e]
  show (s.map.map (Value.int .i64))[i]? = _
  rw [List.getElem?_map, h]
  rfl

/-- where a thing stands; -1: nowhere -/
def findAt {α : Type} (p : α → Bool) : Nat → List α → Int
  | _, [] => -1
  | i, x :: l => if p x = true then (i : Int) else findAt p (i + 1) l
theorem findAt_nonneg {α : Type} (p : α → Bool) : ∀ (l : List α) (i : Nat), 0 ≤ findAt p i l ↔ ∃ x ∈ l, p x = true := by
  intro l
  induction l with
  | nil => intro i; simp [findAt]
  | cons x l ih =>
    intro i
    rw [findAt]
    split
    · rename_i h; simp [h]
    · rename_i h; rw [ih]; simp [h]
def named (nm : ByteArray) (s : Snap) : Bool := decide (s.name = nm)

/-! ### May: the program's, the document's -/
def mayIn (inv : Bool) : Nat → List Int → List Int → Option (List Int)
  | _, [], seen => some seen
  | no, at_ :: m, seen =>
    if at_ = 0 then mayIn inv (no + 1) m seen
    else if at_ < 32 ∨ 96 ≤ at_ ∨ no = 0 ∨ inv = true ∨ at_ ∈ seen then none
    else mayIn inv (no + 1) m (seen ++ [at_])
def mayOut (next : Int) (all : List Snap) : Nat → Int → List Int → List Snap → Bool
  | _, _, _, [] => true
  | i, last, seen, s :: l =>
    if nameB s.name = false ∨ 0 ≤ findAt (named s.name) 0 (all.take i) ∨ s.id ≤ last ∨ next < s.id then false
    else match mayIn s.inv 0 s.map seen with
      | none => false
      | some seen' => mayOut next all (i + 1) s.id seen' l
def mayB (next : Int) (l : List Snap) : Bool := if next < 0 ∨ 1099511627776 < next ∨ 4 < l.length then false else mayOut next l 0 0 [] l

def refIn (inv : Bool) : List Int → List Bool → Option (List Bool)
  | [], seen => some seen
  | n :: m, seen =>
    if n = 0 then refIn inv m seen
    else if n < 32 ∨ 95 < n ∨ seen[n.toNat]? = some true ∨ inv = true then none
    else refIn inv m (seen.set n.toNat true)
def refOut (next : Int) (all : List Snap) : Nat → List Bool → List Snap → Bool
  | _, _, [] => true
  | i, seen, s :: l =>
    if nameB s.name = false ∨ s.id < 1 ∨ next < s.id ∨ (0 < i ∧ ∃ p, all[i - 1]? = some p ∧ s.id ≤ p.id) ∨ s.map.head? ≠ some 0 then false
    else if (all.take i).any (named s.name) = true then false
    else match refIn s.inv (s.map.drop 1) seen with
      | none => false
      | some seen' => refOut next all (i + 1) seen' l
def refMay (next : Int) (l : List Snap) : Bool := if next < 0 ∨ 1099511627776 < next ∨ 4 < l.length then false else refOut next l 0 (List.replicate 96 false) l
end Go.Pl
end

section
namespace Go.Pl
open Go Go.Sx

def b8 (n : Int) : UInt8 := UInt8.ofNat (n % 256).toNat
theorem b8_wrap (n : Int) : IntKind.u8.wrap n = ((b8 n).toNat : Int) := by
  rw [IntKind.wrap_u8]; unfold b8; rw [UInt8.toNat_ofNat']; omega
def snapBytes (s : Snap) : List UInt8 := putText s.name ++ put s.id ++ [if s.inv then 1 else 0] ++ (s.map.drop 1).map b8
def catBytes (next : Int) (l : List Snap) : List UInt8 := put next ++ put l.length ++ l.flatMap snapBytes
def page (l : List UInt8) : List UInt8 := l ++ List.replicate (256 - l.length) 0
def whole (l : List UInt8) : List UInt8 := if 256 < l.length then [] else page l

theorem mapI (l : List Int) : l.flatMap encI = l.map (Value.int .i64) := by
  induction l with
  | nil => rfl
  | cons x l ih => simpa using ih
theorem flatMap_take_succ {α β : Type} (f : α → List β) (l : List α) {i : Nat} {x : α} (h : l[i]? = some x) : (l.take (i + 1)).flatMap f = (l.take i).flatMap f ++ f x := by
  have hi : i < l.length := (List.getElem?_eq_some_iff.1 h).1
  rw [List.take_succ_eq_append_getElem hi, List.flatMap_append]
  rw [List.getElem?_eq_getElem hi] at h
  rw [Option.some.inj h]
  simp
theorem map_take_succ {α β : Type} (f : α → β) (l : List α) {i : Nat} {x : α} (h : l[i]? = some x) : (l.take (i + 1)).map f = (l.take i).map f ++ [f x] := by
  have hi : i < l.length := (List.getElem?_eq_some_iff.1 h).1
  rw [List.take_succ_eq_append_getElem hi, List.map_append]
  rw [List.getElem?_eq_getElem hi] at h
  rw [Option.some.inj h]
  simp

/-- what a number that is between 0 and 2^40 takes -/
theorem put_small {n : Int} (h0 : 0 ≤ n) (h1 : n ≤ 1099511627776) : (put n).length ≤ 6 := by
  unfold put
  refine putU_length 5 _ ?_
  unfold zig
  rw [if_neg (by omega)]
  have : (128 : Nat) ^ (5 + 1) = 4398046511104 := by decide
  omega
theorem put_tiny {n : Int} (h0 : 0 ≤ n) (h1 : n ≤ 63) : (put n).length ≤ 1 := by
  unfold put
  refine putU_length 0 _ ?_
  unfold zig
  rw [if_neg (by omega)]
  omega

theorem nameB_iff (s : ByteArray) : nameB s = true ↔ 1 ≤ s.size ∧ s.size ≤ 8 := by unfold nameB; simp

/-- what may be is small -/
theorem mayOut_ok (next : Int) (all : List Snap) : ∀ (l : List Snap) (i : Nat) (last : Int) (seen : List Int), 0 ≤ last → mayOut next all i last seen l = true → ∀ s ∈ l, nameB s.name = true ∧ 0 < s.id ∧ s.id ≤ next := by
  intro l
  induction l with
  | nil => intro i last seen _ _ s hs; cases hs
  | cons x l ih =>
    intro i last seen h0 h s hs
    rw [mayOut] at h
    split at h
    · cases h
    · rename_i hc
      have h1 : nameB x.name = true := by
        cases hb : nameB x.name with
        | true => rfl
        | false => exact (hc (.inl hb)).elim
      have h2 : last < x.id := Int.not_le.1 fun hh => hc (.inr (.inr (.inl hh)))
      have h3 : x.id ≤ next := Int.not_lt.1 fun hh => hc (.inr (.inr (.inr hh)))
      split at h
      · cases h
      · rcases List.mem_cons.1 hs with rfl | hs
        · exact ⟨h1, by omega, h3⟩
        · exact ih _ _ _ (by omega) h s hs
theorem may_ok {next : Int} {l : List Snap} (h : mayB next l = true) : 0 ≤ next ∧ next ≤ 1099511627776 ∧ l.length ≤ 4 ∧ ∀ s ∈ l, nameB s.name = true ∧ 0 < s.id ∧ s.id ≤ next := by
  unfold mayB at h
  split at h
  · cases h
  · rename_i hc
    exact ⟨by omega, by omega, by omega, mayOut_ok next l l 0 0 [] (by omega) h⟩
theorem snapBytes_length {s : Snap} (h : (encSnap s).length = 35) (hn : nameB s.name = true) (h0 : 0 < s.id) (h1 : s.id ≤ 1099511627776) : (snapBytes s).length ≤ 47 := by
  have h2 := (nameB_iff _).1 hn
  have h3 := put_tiny (n := s.name.size) (by omega) (by omega)
  have h4 := put_small (n := s.id) (by omega) h1
  have h5 := map32 h
  have h6 : s.name.data.toList.length = s.name.size := Array.length_toList
  unfold snapBytes putText
  simp only [List.length_append, List.length_map, List.length_drop, List.length_cons, List.length_nil]
  omega
theorem flatMap_length_le {α β : Type} (f : α → List β) (m : Nat) : ∀ (l : List α), (∀ x ∈ l, (f x).length ≤ m) → (l.flatMap f).length ≤ l.length * m := by
  intro l
  induction l with
  | nil => intro _; simp
  | cons x l ih =>
    intro h
    have h1 := h x (by simp)
    have h2 := ih (fun y hy => h y (by simp [hy]))
    simp only [List.flatMap_cons, List.length_append, List.length_cons, Nat.succ_mul]
    omega
theorem catBytes_length {next : Int} {l : List Snap} (h : mayB next l = true) (h35 : ∀ s ∈ l, (encSnap s).length = 35) : (catBytes next l).length ≤ 195 := by
  obtain ⟨h0, h1, h2, h3⟩ := may_ok h
  have h4 := put_small h0 h1
  have h5 := put_tiny (n := l.length) (by omega) (by omega)
  have h6 := flatMap_length_le snapBytes 47 l (fun s hs => snapBytes_length (h35 s hs) (h3 s hs).1 (h3 s hs).2.1 (by have := (h3 s hs).2.2; omega))
  have h7 : l.length * 47 ≤ 4 * 47 := Nat.mul_le_mul_right _ h2
  unfold catBytes
  simp only [List.length_append]
  omega
theorem page_length {l : List UInt8} (h : l.length ≤ 256) : (page l).length = 256 := by unfold page; simp; omega

theorem snap_row {s : Snap} (h : (encSnap s).length = 35) {b t : Nat} {hs : List Chunk} : Row encI 1 ([(b, blk (encSnap s) t (0, 0))] :: hs) (.slice (some ⟨b, 0 + 3 + 1 * 1, none⟩) (32 - 1) (32 - 1)) (s.map.drop 1) := by
  refine Row.of_blk Has.one (fun _ _ => rfl) (by rw [List.length_drop, map32 h]) (Nat.le_refl _) ?_
  rw [mapI]
  show ((s.map.map (Value.int .i64)).drop 1).take ((32 - 1) * 1) = _
  rw [List.take_of_length_le (by rw [List.length_drop, List.length_map, map32 h]; omega), List.map_drop]
def encode (next : Int) (l : List Snap) : List UInt8 × Int := if mayB next l = true then (page (catBytes next l), 0) else ([], 1)
/-- so far -/
def catTo (next : Int) (l : List Snap) (i : Nat) : List UInt8 := put next ++ put l.length ++ (l.take i).flatMap snapBytes
theorem catTo_succ {next : Int} {l : List Snap} {i : Nat} {s : Snap} (h : l[i]? = some s) : catTo next l (i + 1) = catTo next l i ++ snapBytes s := by
  unfold catTo; rw [flatMap_take_succ _ _ h]; simp only [List.append_assoc]
theorem catTo_all {next : Int} {l : List Snap} {i : Nat} (h : l.length ≤ i) : catTo next l i = catBytes next l := by unfold catTo catBytes; rw [List.take_of_length_le h]
theorem catTo_length {next : Int} {l : List Snap} (h : mayB next l = true) (h35 : ∀ s ∈ l, (encSnap s).length = 35) (i : Nat) : (catTo next l i).length ≤ 195 := by
  obtain ⟨h0, h1, h2, h3⟩ := may_ok h
  have h4 := put_small h0 h1
  have h5 := put_tiny (n := l.length) (by omega) (by omega)
  have h6 := flatMap_length_le snapBytes 47 (l.take i) (fun s hs => snapBytes_length (h35 s (List.mem_of_mem_take hs)) (h3 s (List.mem_of_mem_take hs)).1 (h3 s (List.mem_of_mem_take hs)).2.1 (by have := (h3 s (List.mem_of_mem_take hs)).2.2; omega))
  have h7 : (l.take i).length * 47 ≤ 4 * 47 := Nat.mul_le_mul_right _ (by have := List.length_take_le i l; have h8 := List.length_take_le' i l; omega)
  unfold catTo
  simp only [List.length_append]
  omega
/-- of one snapshot, so far -/
def headBytes (s : Snap) : List UInt8 := putText s.name ++ put s.id ++ [if s.inv then 1 else 0]
theorem headBytes_map (s : Snap) : headBytes s ++ (s.map.drop 1).map b8 = snapBytes s := rfl

def Lb (L : List Bool) : List Value := L.map Value.bool
theorem Lb_length (L : List Bool) : (Lb L).length = L.length := by simp [Lb]
theorem Lb_at {L : List Bool} {n : Int} {b : Bool} (h : L[n.toNat]? = some b) : (Lb L)[0 + n.toNat * 1]? = some (.bool b) := by
  rw [Nat.zero_add, Nat.mul_one]; unfold Lb; rw [List.getElem?_map, h]; rfl
theorem Lb_set {L : List Bool} {n : Int} {b : Bool} (h : n.toNat < L.length) : splice (Lb L) (0 + n.toNat * 1) [.bool b] = Lb (L.set n.toNat b) := by
  rw [Nat.zero_add, Nat.mul_one, splice_one _ (by rw [Lb_length]; exact h)]; unfold Lb; rw [List.map_set]
def catBytesR (next : Int) (l : List Snap) : List UInt8 := if refMay next l = true then whole (catBytes next l) else []

/-! ### the same? -/
def eqSnap (a b : Snap) : Bool := decide (a.name = b.name) && decide (a.id = b.id) && (a.inv == b.inv) && decide (a.map = b.map)
def eqSnaps : List Snap → List Snap → Bool
  | a :: l, b :: r => eqSnap a b && eqSnaps l r
  | _, _ => true
theorem eqSnaps_nil (r : List Snap) : eqSnaps [] r = true := by cases r <;> rfl
def eqCat (n : Int) (a : List Snap) (m : Int) (b : List Snap) : Bool := decide (n = m) && decide (a.length = b.length) && eqSnaps a b
def cutSnap (s : Snap) : Snap := { s with name := cutS s.name 10 }
end Go.Pl
end

section
namespace Go.Pl
open Go Go.Sx

def zeroSnap : Snap := ⟨⟨#[]⟩, 0, false, List.replicate 32 0⟩
theorem len_zeroSnap : (encSnap zeroSnap).length = 35 := rfl
def mapOf (l : List UInt8) : List Int := 0 :: (l.take 31).map fun c => (c.toNat : Int)
def oneS (l : List UInt8) : Snap × Int :=
  match getText l with
  | (name, at_, e) => if e ≠ 0 then (zeroSnap, 0) else
    match get (l.drop at_.toNat) with
    | (id, n, e2) => if e2 ≠ 0 ∨ (l.length : Int) - (at_ + n) < 32 then (zeroSnap, 0)
      else (⟨name, id, decide (l[(at_ + n).toNat]? = some 1), mapOf (l.drop ((at_ + n).toNat + 1))⟩, at_ + n + 32)

theorem getText_k {l : List UInt8} (h : (getText l).2.2 = 0) : 0 < (getText l).2.1 ∧ (getText l).2.1 ≤ l.length := by
  have hk := @get_k l
  unfold getText at h ⊢
  generalize get l = p at *
  obtain ⟨n, k, e⟩ := p
  dsimp only at *
  by_cases h1 : e ≠ 0
  · rw [if_pos h1] at h
    exact (h1 h).elim
  · rw [if_neg h1] at h ⊢
    have hk := hk (by omega)
    by_cases h2 : n < 0 ∨ 65536 < n
    · rw [if_pos h2] at h; simp at h
    · rw [if_neg h2] at h ⊢
      by_cases h3 : (l.length : Int) - k < n
      · rw [if_pos h3] at h; simp at h
      · rw [if_neg h3]
        dsimp only
        omega
theorem mapOf_length {l : List UInt8} (h : 31 ≤ l.length) : (mapOf l).length = 32 := by unfold mapOf; simp; omega
theorem oneS_len (l : List UInt8) : (encSnap (oneS l).1).length = 35 := by
  unfold oneS
  have hk := @getText_k l
  generalize getText l = p at *
  obtain ⟨name, at_, e⟩ := p
  dsimp only at *
  split
  · rfl
  · rename_i he
    have hk := hk (by omega)
    have hk2 := @get_k (l.drop at_.toNat)
    generalize get (l.drop at_.toNat) = q at *
    obtain ⟨id, n, e2⟩ := q
    dsimp only at *
    split
    · rfl
    · rename_i h2
      have hk2 := hk2 (by omega)
      rw [len_snap]
      dsimp only
      rw [mapOf_length (by rw [List.length_drop]; omega)]
theorem oneS_k (l : List UInt8) : (oneS l).2 = 0 ∨ (0 < (oneS l).2 ∧ (oneS l).2 ≤ l.length) := by
  unfold oneS
  have hk := @getText_k l
  generalize getText l = p at *
  obtain ⟨name, at_, e⟩ := p
  dsimp only at *
  split
  · exact .inl rfl
  · rename_i he
    have hk := hk (by omega)
    have hk2 := @get_k (l.drop at_.toNat)
    generalize get (l.drop at_.toNat) = q at *
    obtain ⟨id, n, e2⟩ := q
    dsimp only at *
    split
    · exact .inl rfl
    · rename_i h2
      have hk2 := hk2 (by omega)
      exact .inr (by dsimp only; omega)
def mapTo (m : List Int) (no : Nat) : List Int := m.take no ++ List.replicate (32 - no) 0
theorem mapTo_set {m : List Int} {no : Nat} {x : Int} (h : m[no]? = some x) (hno : no < 32) (hm : m.length = 32) : (mapTo m no).set no x = mapTo m (no + 1) := by
  unfold mapTo
  rw [take_succ h]
  have hl : (m.take no).length = no := by rw [List.length_take]; omega
  rw [List.set_append_right _ _ (by omega), hl, Nat.sub_self]
  have e : 32 - no = (32 - (no + 1)) + 1 := by omega
  rw [e, List.replicate_succ, List.set_cons_zero, List.append_assoc]
  rfl
theorem mapTo_all {m : List Int} (hm : m.length = 32) : mapTo m 32 = m := by unfold mapTo; rw [List.take_of_length_le (by omega)]; simp
theorem mapTo_one (l : List UInt8) : mapTo (mapOf l) 1 = List.replicate 32 0 := by unfold mapTo mapOf; rw [List.take_succ_cons, List.take_zero]; rfl
theorem mapTo_length {m : List Int} {no : Nat} (hm : m.length = 32) (h : no ≤ 32) : (mapTo m no).length = 32 := by unfold mapTo; simp; omega
theorem snap_set {s : Snap} {no : Nat} {x : Int} (h : no < s.map.length) : splice (encSnap s) (0 + 3 + (no : Int).toNat * 1) [.int .i64 x] = encSnap { s with map := s.map.set no x } := by
  have e : 0 + 3 + (no : Int).toNat * 1 = no + 3 := by omega
  rw [e, splice_one _ (by rw [len_snap]; omega)]
  show Value.string s.name :: Value.int .i64 s.id :: Value.bool s.inv :: (s.map.map (Value.int .i64)).set no (.int .i64 x) = _
  rw [← List.map_set]
  rfl
theorem mapOf_at {l : List UInt8} {a no : Nat} {c : UInt8} (h : l[a + no]? = some c) (h1 : 1 ≤ no) (h2 : no < 32) : (mapOf (l.drop (a + 1)))[no]? = some (c.toNat : Int) := by
  obtain ⟨j, rfl⟩ : ∃ j, no = j + 1 := ⟨no - 1, by omega⟩
  unfold mapOf
  rw [List.getElem?_cons_succ, List.getElem?_map, List.getElem?_take, if_pos (by omega), List.getElem?_drop]
  rw [show a + 1 + j = a + (j + 1) from by omega, h]
  rfl

def readSnaps (l : List UInt8) : Nat → Nat → Option (List Snap)
  | 0, _ => some []
  | k + 1, a => if (oneS (l.drop a)).2 = 0 then none else
    match readSnaps l k (a + (oneS (l.drop a)).2.toNat) with
    | none => none
    | some r => some ((oneS (l.drop a)).1 :: r)
/-- the end of reading: it must be its own page -/
def sealed (l : List UInt8) (next : Int) (s : List Snap) : (Int × List Snap) × Int :=
  if (encode next s).2 ≠ 0 ∨ (encode next s).1 ≠ l then ((0, []), 8) else ((next, s), 0)
def decodeS (l : List UInt8) : (Int × List Snap) × Int :=
  if l.length ≠ 256 then ((0, []), 8) else
  match get l with
  | (next, at_, e) => if e ≠ 0 then ((0, []), 8) else
    match get (l.drop at_.toNat) with
    | (k, n, e2) => if e2 ≠ 0 ∨ k < 0 ∨ 4 < k then ((0, []), 8) else
      match readSnaps l k.toNat (at_ + n).toNat with
      | none => ((0, []), 8)
      | some s => sealed l next s
theorem readSnaps_len {l : List UInt8} : ∀ (k a : Nat) (r : List Snap), readSnaps l k a = some r → r.length = k ∧ ∀ s ∈ r, (encSnap s).length = 35 := by
  intro k
  induction k with
  | zero => intro a r h; simp only [readSnaps, Option.some.injEq] at h; subst h; exact ⟨rfl, by simp⟩
  | succ k ih =>
    intro a r h
    rw [readSnaps] at h
    split at h
    · cases h
    · split at h
      · cases h
      · rename_i r' hr'
        obtain rfl := Option.some.inj h
        obtain ⟨h1, h2⟩ := ih _ _ hr'
        refine ⟨by simp [h1], ?_⟩
        intro s hs
        rcases List.mem_cons.1 hs with rfl | hs
        · exact oneS_len _
        · exact h2 s hs
/-- reading goes on -/
def thenSeal (l : List UInt8) (next : Int) (acc : List Snap) : Option (List Snap) → (Int × List Snap) × Int
  | none => ((0, []), 8)
  | some s => sealed l next (acc ++ s)
theorem thenSeal_cons (l : List UInt8) (next : Int) (acc : List Snap) (s : Snap) (R : Option (List Snap)) :
    thenSeal l next acc (match R with | none => none | some r => some (s :: r)) = thenSeal l next (acc ++ [s]) R := by
  cases R with
  | none => rfl
  | some r => simp [thenSeal]
end Go.Pl
end

section
namespace Go.Pl
open Go Go.Sx
def newSnap (nm : ByteArray) (id : Int) : Snap := ⟨nm, id, false, List.replicate 32 0⟩
theorem len_newSnap (nm : ByteArray) (id : Int) : (encSnap (newSnap nm id)).length = 35 := rfl
/-- Add: the catalog, the error -/
def addC (next : Int) (l : List Snap) (nm : ByteArray) : (Int × List Snap) × Int :=
  if nameB nm = false then ((0, []), 1) else if 0 ≤ findAt (named nm) 0 l then ((0, []), 7)
  else if 4 ≤ l.length ∨ 1099511627776 ≤ next then ((0, []), 4) else ((next + 1, l ++ [newSnap nm (next + 1)]), 0)
def dropC (next : Int) (l : List Snap) (nm : ByteArray) : (Int × List Snap) × Int :=
  if findAt (named nm) 0 l < 0 then ((0, []), 6) else ((next, l.take (findAt (named nm) 0 l).toNat ++ l.drop ((findAt (named nm) 0 l).toNat + 1)), 0)
theorem findAt_lt {α : Type} (p : α → Bool) : ∀ (l : List α) (i : Nat), findAt p i l < (i : Int) + l.length ∧ (findAt p i l = -1 ∨ (i : Int) ≤ findAt p i l) := by
  intro l
  induction l with
  | nil =>
    intro i
    refine ⟨?_, .inl rfl⟩
    show (-1 : Int) < (i : Int) + ((0 : Nat) : Int)
    omega
  | cons x l ih =>
    intro i
    rw [findAt]
    split
    · simp only [List.length_cons]; omega
    · have := ih (i + 1)
      simp only [List.length_cons]
      omega
end Go.Pl
end

section
namespace Go.Pl
open Go Go.Sx
def Same (a : List Int) (b : List Bool) : Prop := b.length = 96 ∧ ∀ n : Int, 32 ≤ n → n ≤ 95 → (n ∈ a ↔ b[n.toNat]? = some true)
theorem same_nil : Same [] (List.replicate 96 false) := by
  refine ⟨by simp, fun n h1 h2 => ?_⟩
  constructor
  · intro h; cases h
  · intro h; rw [List.getElem?_replicate] at h; split at h <;> cases h
theorem same_add {a : List Int} {b : List Bool} {n : Int} (h : Same a b) (h1 : 32 ≤ n) (h2 : n ≤ 95) : Same (a ++ [n]) (b.set n.toNat true) := by
  refine ⟨by rw [List.length_set]; exact h.1, fun k k1 k2 => ?_⟩
  rw [List.mem_append, List.mem_singleton, List.getElem?_set]
  have := h.2 k k1 k2
  have hl := h.1
  by_cases e : n.toNat = k.toNat
  · rw [if_pos e, if_pos (by omega)]
    constructor
    · intro _; rfl
    · intro _; right; omega
  · rw [if_neg e, ← this]
    constructor
    · rintro (h | h)
      · exact h
      · exact (e (by omega)).elim
    · exact .inl
theorem in_same {inv : Bool} : ∀ (m : List Int) (no : Nat) (a : List Int) (b : List Bool), 0 < no → Same a b →
    (mayIn inv no m a = none ∧ refIn inv m b = none) ∨ ∃ a' b', mayIn inv no m a = some a' ∧ refIn inv m b = some b' ∧ Same a' b' := by
  intro m
  induction m with
  | nil => intro no a b _ h; exact .inr ⟨a, b, rfl, rfl, h⟩
  | cons x m ih =>
    intro no a b hno h
    rw [mayIn, refIn]
    by_cases h0 : x = 0
    · rw [if_pos h0, if_pos h0]; exact ih _ _ _ (by omega) h
    · rw [if_neg h0, if_neg h0]
      by_cases hc : x < 32 ∨ 96 ≤ x ∨ no = 0 ∨ inv = true ∨ x ∈ a
      · rw [if_pos hc, if_pos]
        · exact .inl ⟨rfl, rfl⟩
        · by_cases hx : x < 32 ∨ 95 < x
          · rcases hx with hx | hx
            · exact .inl hx
            · exact .inr (.inl hx)
          · rcases hc with hc | hc | hc | hc | hc
            · exact (hx (.inl hc)).elim
            · omega
            · omega
            · exact .inr (.inr (.inr hc))
            · exact .inr (.inr (.inl ((h.2 x (by omega) (by omega)).1 hc)))
      · have hx : 32 ≤ x ∧ x ≤ 95 := ⟨Int.not_lt.1 fun hh => hc (.inl hh), Int.not_lt.1 fun hh => hc (.inr (.inl (by omega)))⟩
        rw [if_neg hc, if_neg]
        · exact ih _ _ _ (by omega) (same_add h hx.1 hx.2)
        · rintro (hh | hh | hh | hh)
          · omega
          · omega
          · exact hc (.inr (.inr (.inr (.inr ((h.2 x hx.1 hx.2).2 hh)))))
          · exact hc (.inr (.inr (.inr (.inl hh))))
theorem out_same (next : Int) (all : List Snap) (hm : ∀ s ∈ all, s.map ≠ []) : ∀ (l : List Snap) (i : Nat) (last : Int) (a : List Int) (b : List Bool), all.drop i = l → 0 ≤ last →
    (i = 0 → last = 0) → (∀ p, 0 < i → all[i - 1]? = some p → p.id = last) → Same a b → mayOut next all i last a l = refOut next all i b l := by
  intro l
  induction l with
  | nil => intro i last a b _ _ _ _ _; rfl
  | cons s l ih =>
    intro i last a b hd h0 hi hp hs
    have hat : all[i]? = some s := by
      have := congrArg (·[0]?) hd
      simpa using this
    rw [mayOut, refOut]
    have hsm := hm s (List.mem_of_getElem? hat)
    cases hmm : s.map with
    | nil => exact (hsm hmm).elim
    | cons m0 m =>
    by_cases hn : nameB s.name = false
    · rw [if_pos (.inl hn), if_pos (.inl hn)]
    · by_cases hid : s.id ≤ last
      · rw [if_pos (.inr (.inr (.inl hid)))]
        by_cases h1 : s.id < 1
        · rw [if_pos (.inr (.inl h1))]
        · have hi0 : 0 < i := Nat.pos_of_ne_zero fun e => by have := hi e; omega
          have hlt : i < all.length := (List.getElem?_eq_some_iff.1 hat).1
          obtain ⟨p, hpp⟩ := nth (l := all) (i := i - 1) (by omega)
          rw [if_pos (.inr (.inr (.inr (.inl ⟨hi0, p, hpp, by rw [hp p hi0 hpp]; exact hid⟩))))]
      · by_cases hnx : next < s.id
        · rw [if_pos (.inr (.inr (.inr hnx))), if_pos (.inr (.inr (.inl hnx)))]
        · by_cases hf : 0 ≤ findAt (named s.name) 0 (all.take i)
          · rw [if_pos (.inr (.inl hf))]
            have hany : (all.take i).any (named s.name) = true := by
              obtain ⟨q, hq, hq2⟩ := (findAt_nonneg _ _ _).1 hf
              exact List.any_eq_true.2 ⟨q, hq, hq2⟩
            by_cases hbig : nameB s.name = false ∨ s.id < 1 ∨ next < s.id ∨ (0 < i ∧ ∃ p, all[i - 1]? = some p ∧ s.id ≤ p.id) ∨ (m0 :: m).head? ≠ some 0
            · rw [if_pos hbig]
            · rw [if_neg hbig, if_pos hany]
          · have hany : ¬ (all.take i).any (named s.name) = true := by
              intro h
              obtain ⟨q, hq, hq2⟩ := List.any_eq_true.1 h
              exact hf ((findAt_nonneg _ _ _).2 ⟨q, hq, hq2⟩)
            rw [if_neg (by
              rintro (h | h | h | h)
              · exact hn h
              · exact hf h
              · exact hid h
              · exact hnx h)]
            rw [mayIn]
            by_cases hm0 : m0 = 0
            · rw [if_pos hm0, if_neg, if_neg hany]
              · show _ = match refIn s.inv m b with | none => false | some seen' => refOut next all (i + 1) seen' l
                have hd1 : all.drop (i + 1) = l := by
                  have := congrArg (List.drop 1) hd
                  simpa using this
                rcases in_same (inv := s.inv) m (0 + 1) a b (by omega) hs with ⟨e1, e2⟩ | ⟨a', b', e1, e2, hs'⟩
                · rw [e1, e2]
                · rw [e1, e2]
                  exact ih (i + 1) s.id a' b' hd1 (by omega) (by omega) (fun p _ hpp => by rw [Nat.add_sub_cancel, hat] at hpp; rw [← Option.some.inj hpp]) hs'
              · rintro (h | h | h | ⟨h, q, hq, hq2⟩ | h)
                · exact hn h
                · omega
                · exact hnx h
                · rw [hp q h hq] at hq2; exact hid hq2
                · rw [hm0] at h; exact h rfl
            · rw [if_neg hm0, if_pos (.inr (.inr (.inl rfl))), if_pos]
              exact .inr (.inr (.inr (.inr (by intro h; exact hm0 (Option.some.inj h)))))
theorem may_eq {next : Int} {l : List Snap} (hm : ∀ s ∈ l, (encSnap s).length = 35) : mayB next l = refMay next l := by
  unfold mayB refMay
  split
  · rfl
  · exact out_same next l (fun s hs e => by have := map32 (hm s hs); rw [e] at this; cases this) l 0 0 [] _ rfl (Int.le_refl _) (fun _ => rfl) (fun p h => absurd h (by omega)) same_nil
theorem bytes_eq {next : Int} {l : List Snap} (hm : ∀ s ∈ l, (encSnap s).length = 35) : catBytesR next l = (encode next l).1 := by
  unfold catBytesR encode
  rw [← may_eq hm]
  by_cases h : mayB next l = true
  · rw [if_pos h, if_pos h]
    have := catBytes_length h hm
    unfold whole
    rw [if_neg (by omega)]
  · rw [if_neg h, if_neg h]
end Go.Pl
end

section
namespace Go.Pl
open Go Go.Sx
def not0 (m : List Int) : List Int := m.filter fun x => decide (x ≠ 0)
def gather (xs : List Snap) : List Int := xs.flatMap fun s => not0 s.map
def copiesP (xs : List Snap) : List Int := (gather xs).mergeSort fun x y => decide (x ≤ y)
def same (n : Int) (m : List Int) : List Int := m.filter fun x => decide (x = n)
def sameIn (n : Int) (xs : List Snap) : List Int := xs.flatMap fun s => same n s.map
def copiesTo (k : Nat) (xs : List Snap) : List Int := (List.range k).flatMap fun (j : Nat) => sameIn ((j : Int) + 1) xs
def copiesR (xs : List Snap) : List Int := copiesTo 255 xs
def freeAt : Nat → Int → List Int → Int × Bool
  | 0, _, _ => (0, false)
  | k + 1, n, l => if n ∈ l then freeAt k (n + 1) l else (n, true)
def takeP (xs : List Snap) : Int × Bool := freeAt 64 32 (copiesP xs)
def takeR (xs : List Snap) : Int × Bool := freeAt 64 32 (copiesR xs)

theorem filter_take_succ {α : Type} (p : α → Bool) {l : List α} {i : Nat} {x : α} (h : l[i]? = some x) : (l.take (i + 1)).filter p = (l.take i).filter p ++ if p x = true then [x] else [] := by
  rw [take_succ h, List.filter_append]
  congr 1
  rw [List.filter_cons, List.filter_nil]
theorem not0_length (m : List Int) : (not0 m).length ≤ m.length := List.length_filter_le _ _
theorem same_length (n : Int) (m : List Int) : (same n m).length ≤ m.length := List.length_filter_le _ _
theorem gather_length {xs : List Snap} (h : ∀ s ∈ xs, (encSnap s).length = 35) : (gather xs).length ≤ xs.length * 32 :=
  flatMap_length_le _ 32 _ fun s hs => by have := not0_length s.map; have := map32 (h s hs); omega
theorem sameIn_length {n : Int} {xs : List Snap} (h : ∀ s ∈ xs, (encSnap s).length = 35) : (sameIn n xs).length ≤ xs.length * 32 :=
  flatMap_length_le _ 32 _ fun s hs => by have := same_length n s.map; have := map32 (h s hs); omega
theorem copiesTo_length {k : Nat} {xs : List Snap} (h : ∀ s ∈ xs, (encSnap s).length = 35) : (copiesTo k xs).length ≤ k * (xs.length * 32) := by
  have := flatMap_length_le (fun j : Nat => sameIn ((j : Int) + 1) xs) (xs.length * 32) (List.range k) fun j _ => sameIn_length h
  rw [List.length_range] at this
  exact this
theorem copiesTo_succ (k : Nat) (xs : List Snap) : copiesTo (k + 1) xs = copiesTo k xs ++ sameIn ((k : Int) + 1) xs := by
  unfold copiesTo
  rw [List.range_succ, List.flatMap_append]
  simp
/-- both hold the same -/
theorem copies_eq {xs : List Snap} (h : ∀ s ∈ xs, ∀ x ∈ s.map, x = 0 ∨ (1 ≤ x ∧ x ≤ 255)) : copiesP xs = copiesR xs := by
  have hmem : ∀ x ∈ copiesR xs, True := fun _ _ => trivial
  have hp1 : (copiesP xs).Perm (gather xs) := List.mergeSort_perm _ _
  have hs1 : (copiesP xs).Pairwise fun a b => decide (a ≤ b) = true :=
    List.pairwise_mergeSort (fun a b c h1 h2 => by simp only [decide_eq_true_eq] at *; omega) (fun a b => by simp only [Bool.or_eq_true, decide_eq_true_eq]; omega) _
  have hval : ∀ n : Int, ∀ y ∈ sameIn n xs, y = n := by
    intro n y hy
    obtain ⟨s, _, hy⟩ := List.mem_flatMap.1 hy
    have := (List.mem_filter.1 hy).2
    simpa using this
  have hs2 : (copiesR xs).Pairwise fun a b => decide (a ≤ b) = true := by
    unfold copiesR copiesTo
    rw [List.pairwise_flatMap]
    constructor
    · intro j _
      rw [List.pairwise_iff_forall_sublist]
      intro a b hab
      have ha := hval _ a (hab.subset (by simp))
      have hb := hval _ b (hab.subset (by simp))
      simp only [decide_eq_true_eq]; omega
    · refine List.Pairwise.imp ?_ List.pairwise_lt_range
      intro i j hij x hx y hy
      have hx := hval _ x hx
      have hy := hval _ y hy
      simp only [decide_eq_true_eq]; omega
  have hcnt : ∀ a : Int, (gather xs).count a = (copiesR xs).count a := by
    intro a
    have h1 : ∀ n : Int, (sameIn n xs).count a = if a = n then (xs.flatMap Snap.map).count a else 0 := by
      intro n
      split
      · rename_i e
        subst e
        unfold sameIn
        rw [List.count_flatMap, List.count_flatMap]
        congr 1
        apply List.map_congr_left
        intro s _
        show List.count a (same a s.map) = List.count a s.map
        unfold same
        rw [List.count_filter (by simp)]
      · rename_i e
        exact List.count_eq_zero.2 fun hm => e (hval n a hm)
    have h2 : ∀ k : Nat, (copiesTo k xs).count a = if 1 ≤ a ∧ a ≤ k then (xs.flatMap Snap.map).count a else 0 := by
      intro k
      induction k with
      | zero => unfold copiesTo; rw [if_neg (by omega)]; simp
      | succ k ih =>
        rw [copiesTo_succ, List.count_append, ih, h1]
        by_cases e : a = (k : Int) + 1
        · rw [if_neg (by omega), if_pos e, if_pos (by omega)]; omega
        · rw [if_neg e]
          by_cases e2 : 1 ≤ a ∧ a ≤ (k : Int)
          · rw [if_pos e2, if_pos (by omega)]; rfl
          · rw [if_neg e2, if_neg (by omega)]
    have h3 : (gather xs).count a = if a = 0 then 0 else (xs.flatMap Snap.map).count a := by
      unfold gather
      split
      · rename_i e
        refine List.count_eq_zero.2 fun hm => ?_
        obtain ⟨s, _, hy⟩ := List.mem_flatMap.1 hm
        have := (List.mem_filter.1 hy).2
        simp at this
        exact this e
      · rename_i e
        rw [List.count_flatMap, List.count_flatMap]
        congr 1
        apply List.map_congr_left
        intro s _
        show List.count a (not0 s.map) = List.count a s.map
        unfold not0
        rw [List.count_filter (by simpa using e)]
    rw [h3]
    unfold copiesR
    rw [h2]
    by_cases e : a = 0
    · rw [if_pos e, if_neg (by omega)]
    · rw [if_neg e]
      by_cases e2 : 1 ≤ a ∧ a ≤ ((255 : Nat) : Int)
      · rw [if_pos e2]
      · rw [if_neg e2]
        refine List.count_eq_zero.2 fun hm => ?_
        obtain ⟨s, hs, hy⟩ := List.mem_flatMap.1 hm
        have := h s hs a hy
        omega
  exact List.Perm.eq_of_pairwise (fun a b _ _ h1 h2 => by simp only [decide_eq_true_eq] at *; omega) hs1 hs2 (hp1.trans (List.perm_iff_count.2 hcnt))
/-- what may be has its copies between -/
theorem mayIn_range {inv : Bool} : ∀ (m : List Int) (no : Nat) (a a' : List Int), mayIn inv no m a = some a' → ∀ x ∈ m, x = 0 ∨ (1 ≤ x ∧ x ≤ 255) := by
  intro m
  induction m with
  | nil => intro no a a' _ x hx; cases hx
  | cons y m ih =>
    intro no a a' h x hx
    rw [mayIn] at h
    split at h
    · rename_i h0
      rcases List.mem_cons.1 hx with rfl | hx
      · exact .inl h0
      · exact ih _ _ _ h x hx
    · split at h
      · cases h
      · rename_i hc
        rcases List.mem_cons.1 hx with rfl | hx
        · have h1 : 32 ≤ x := Int.not_lt.1 fun hh => hc (.inl hh)
          have h2 : x < 96 := Int.not_le.1 fun hh => hc (.inr (.inl hh))
          exact .inr (by omega)
        · exact ih _ _ _ h x hx
theorem mayOut_range {next : Int} {all : List Snap} : ∀ (l : List Snap) (i : Nat) (last : Int) (a : List Int), mayOut next all i last a l = true → ∀ s ∈ l, ∀ x ∈ s.map, x = 0 ∨ (1 ≤ x ∧ x ≤ 255) := by
  intro l
  induction l with
  | nil => intro i last a _ s hs; cases hs
  | cons t l ih =>
    intro i last a h s hs
    rw [mayOut] at h
    split at h
    · cases h
    · split at h
      · cases h
      · rename_i a' ha'
        rcases List.mem_cons.1 hs with rfl | hs
        · exact mayIn_range _ _ _ _ ha'
        · exact ih _ _ _ h s hs
theorem may_range {next : Int} {l : List Snap} (h : mayB next l = true) : ∀ s ∈ l, ∀ x ∈ s.map, x = 0 ∨ (1 ≤ x ∧ x ≤ 255) := by
  unfold mayB at h
  split at h
  · cases h
  · exact mayOut_range _ _ _ _ h
end Go.Pl
end

section
namespace Go.Pl
open Go Go.Sx

def mayUse (no : Int) : Prop := 2 ≤ no ∧ no < 32
instance (no : Int) : Decidable (mayUse no) := inferInstanceAs (Decidable (_ ∧ _))
/-- is a page in use, by the page that says it -/
def hasB (bs : List UInt8) (no : Int) : Bool := decide (mayUse no) && decide ((bs.getD (no.toNat / 8) 0).toNat / 2 ^ (no.toNat % 8) % 2 = 1)
def Snap.at (s : Snap) (no : Int) : Int := s.map.getD no.toNat 0
def Snap.side (s : Snap) : Prop := ∀ a ∈ s.map, a = 0 ∨ (32 ≤ a ∧ a < 96)
theorem Snap.at_some {s : Snap} {n : Nat} {x : Int} (h : s.map[n]? = some x) : s.at (n : Int) = x := by
  unfold Snap.at; rw [Int.toNat_natCast, List.getD_eq_getElem?_getD, h]; rfl
theorem Snap.at_side {s : Snap} (h : s.side) (no : Int) : s.at no = 0 ∨ (32 ≤ s.at no ∧ s.at no < 96) := by
  unfold Snap.at
  rw [List.getD_eq_getElem?_getD]
  cases e : s.map[no.toNat]? with
  | none => exact .inl rfl
  | some x => exact h x (List.mem_of_getElem? e)
/-- where a snapshot's page lies -/
def viewNo (s : Snap) (no : Int) : Int := if s.at no ≠ 0 then s.at no else no
theorem viewNo_may {s : Snap} (h : s.side) {no : Int} (hn : mayPage no) : mayPage (viewNo s no) := by
  unfold viewNo mayPage at *
  have := s.at_side h no
  split <;> omega
def pgOf (Q : Pages) (no : Int) : Int × List UInt8 := if mayPage no then (0, Q no) else (3, [])
def viewPg (s : Snap) (pg : Int → Int × List UInt8) (no : Int) : Int × List UInt8 := if no < 1 ∨ 32 ≤ no then (3, []) else pg (viewNo s no)
def needsB (Q : Pages) (s : Snap) (no : Int) : Bool := if s.inv = true ∨ s.at no ≠ 0 then false else if no = 1 then true else hasB (Q (viewNo s 1)) no
def lose (s : Snap) : Snap := { s with inv := true, map := List.replicate 32 0 }
def give (s : Snap) (no at_ : Int) : Snap := { s with map := s.map.set no.toNat at_ }
def takeAll : List Snap → Nat → List Int → List Snap
  | xs, _, [] => xs
  | xs, k, no :: l => match takeP xs with
    | (_, false) => xs.modify k lose
    | (a, true) => takeAll (xs.modify k fun s => give s no a) k l
def copiesC (Q : Pages) (xs : List Snap) (k : Nat) (nos : List Int) : List Snap := match xs[k]? with
  | none => xs
  | some s => takeAll xs k (nos.filter (needsB Q s))
def stepS (Q : Pages) (but : Int) (nos : List Int) (xs : List Snap) (k : Nat) : List Snap := match xs[k]? with
  | none => xs
  | some s => if s.id = but then xs else copiesC Q xs k nos
/-- all snapshots, but one, have what they need -/
def expandS (Q : Pages) (but : Int) (nos : List Int) (xs : List Snap) : List Snap := (List.range xs.length).foldl (stepS Q but nos) xs
abbrev Chg := Int → Option (List UInt8)
def updO (c : Chg) (no : Int) (b : List UInt8) : Chg := fun k => if k = no then some b else c k
def nosOf (c : Chg) : List Int := ((List.range 32).map fun k : Nat => (k : Int)).filter fun no => (c no).isSome
def wasOf (was : List Snap) (s : Snap) : Snap := was.getD (findAt (named s.name) 0 was).toNat (lose s)
/-- a snapshot's side pages that are new: which, of which page -/
def sideOf (w s : Snap) (n : Nat) : List (Int × Int) := ((List.range n).map fun k : Nat => (s.at k, (k : Int))).filter fun p => decide (p.1 ≠ 0 ∧ w.at p.2 ≠ p.1)
def sides (was xs : List Snap) : List (Int × Int) := xs.flatMap fun s => sideOf (wasOf was s) s 32
def laySides (Q : Pages) (c : Chg) (l : List (Int × Int)) : Chg := l.foldl (fun c p => updO c p.1 (Q p.2)) c
def sealCat (Q : Pages) (next : Int) (xs : List Snap) (c : Chg) : Chg := if (encode next xs).1 = Q 0 then c else updO c 0 (encode next xs).1
def expandM (Q : Pages) (next : Int) (was xs : List Snap) (c : Chg) : Chg := sealCat Q next xs (laySides Q c (sides was xs))
def imgsOf (c : Chg) (n : Nat) : List Img := ((List.range n).map fun k : Nat => (k : Int)).filterMap fun no => (c no).map fun b => (no, b)
def chgOf (l : List Img) : Chg := l.foldl (fun c x => updO c x.1 x.2) fun _ => none
def expandC (Q : Pages) (next : Int) (xs : List Snap) (l : List Img) : List Img :=
  imgsOf (expandM Q next xs (expandS Q 0 (nosOf (chgOf l)) xs) (chgOf l)) 96
/-- what lies otherwise than in a snapshot -/
def backTo (Q : Pages) (s : Snap) (n : Nat) : Chg := ((List.range n).map fun k : Nat => (k : Int)).foldl (fun c no => if no = 0 ∨ s.at no = 0 ∨ Q (s.at no) = Q no then c else updO c no (Q (s.at no))) fun _ => none
def revertC (Q : Pages) (next : Int) (xs : List Snap) (i : Nat) (s : Snap) : List Img :=
  imgsOf (expandM Q next xs (expandS Q s.id (nosOf (backTo Q s 32)) (xs.take (i + 1))) (backTo Q s 32)) 96
/-- a map of pages in memory -/
structure MapRow (hs : List Chunk) (m : Int → Option Value) (c : Chg) : Prop where
  none : ∀ no, c no = none → m no = none
  some : ∀ no b, c no = some b → ∃ v, m no = some v ∧ Row encB 1 hs v b
theorem MapRow.empty (hs : List Chunk) : MapRow hs (fun _ => Option.none) (fun _ => Option.none) := ⟨fun _ _ => rfl, fun _ _ h => by cases h⟩
theorem MapRow.mono {hs hs' : List Chunk} {m : Int → Option Value} {c : Chg} (h : MapRow hs m c) (hh : ∀ b o, Has hs b o → Has hs' b o) : MapRow hs' m c :=
  ⟨h.none, fun no b e => by obtain ⟨v, h1, h2⟩ := h.some no b e; exact ⟨v, h1, h2.mono hh⟩⟩
theorem MapRow.put {hs : List Chunk} {m : Int → Option Value} {c : Chg} (h : MapRow hs m c) {no : Int} {v : Value} {b : List UInt8} (hr : Row encB 1 hs v b) : MapRow hs (fun z => if z = no then Option.some v else m z) (updO c no b) := by
  refine ⟨fun z e => ?_, fun z b' e => ?_⟩
  · unfold updO at e; try dsimp only
    by_cases hz : z = no
    · rw [if_pos hz] at e; cases e
    · rw [if_neg hz] at e ⊢; exact h.none z e
  · unfold updO at e; try dsimp only
    by_cases hz : z = no
    · rw [if_pos hz] at e ⊢; cases e; exact ⟨v, rfl, hr⟩
    · rw [if_neg hz] at e ⊢; exact h.some z b' e
theorem MapRow.is {hs : List Chunk} {m : Int → Option Value} {c : Chg} (h : MapRow hs m c) (no : Int) : (m no).isSome = (c no).isSome := by
  cases e : c no with
  | none => rw [h.none no e]; rfl
  | some b => obtain ⟨v, h1, _⟩ := h.some no b e; rw [h1]; rfl
theorem MapRow.grow {G K : Chunk} {hs : List Chunk} {m : Int → Option Value} {c : Chg} (h : MapRow (G :: hs) m c) : MapRow ((G ++ K) :: hs) m c := h.mono fun b o hb => Has.of_mem (by have := hb.mem; simp only [List.flatten_cons, List.mem_append] at this ⊢; rcases this with h | h; exact .inl (.inl h); exact .inr h)
/-! ### what copies leave as it is -/
theorem takeP_side {xs : List Snap} {a : Int} (h : takeP xs = (a, true)) : 32 ≤ a ∧ a < 96 ∧ a ∉ copiesP xs := by
  have key : ∀ (k : Nat) (n : Int) (l : List Int), freeAt k n l = (a, true) → n ≤ a ∧ a < n + k ∧ a ∉ l := by
    intro k
    induction k with
    | zero => intro n l h; simp [freeAt] at h
    | succ k ih =>
      intro n l h
      rw [freeAt] at h
      split at h
      · obtain ⟨h1, h2, h3⟩ := ih _ _ h; exact ⟨by omega, by omega, h3⟩
      · rename_i hn
        injection h with h _; subst h
        exact ⟨by omega, by omega, hn⟩
  have := key 64 32 _ h
  exact ⟨this.1, by omega, this.2.2⟩
theorem lose_side (s : Snap) : (lose s).side := fun a h => .inl (List.eq_of_mem_replicate h)
theorem give_side {s : Snap} (h : s.side) (no : Int) {a : Int} (h1 : 32 ≤ a) (h2 : a < 96) : (give s no a).side := fun b hb => by
  rcases List.mem_or_eq_of_mem_set hb with hb | hb
  · exact h b hb
  · subst hb; exact .inr ⟨h1, h2⟩
theorem mem_modify {α : Type} {l : List α} {k : Nat} {f : α → α} {y : α} (h : y ∈ l.modify k f) : y ∈ l ∨ ∃ x ∈ l, y = f x := by
  obtain ⟨j, hj⟩ := List.getElem?_of_mem h
  rw [List.getElem?_modify] at hj
  cases e : l[j]? with
  | none => rw [e] at hj; cases hj
  | some x =>
    rw [e] at hj
    have hx := List.mem_of_getElem? e
    have hj : (if k = j then f x else x) = y := Option.some.inj hj
    by_cases hk : k = j
    · rw [if_pos hk] at hj; exact .inr ⟨x, hx, hj.symm⟩
    · rw [if_neg hk] at hj; exact .inl (hj ▸ hx)
theorem takeAll_side : ∀ {nos : List Int} {xs : List Snap} {k : Nat}, (∀ s ∈ xs, s.side) → ∀ s ∈ takeAll xs k nos, s.side := by
  intro nos
  induction nos with
  | nil => intro xs k h; exact h
  | cons no nos ih =>
    intro xs k h
    rw [takeAll]
    split
    · intro s hs
      rcases mem_modify hs with hs | ⟨x, _, rfl⟩
      · exact h s hs
      · exact lose_side x
    · rename_i a ha
      obtain ⟨h1, h2, _⟩ := takeP_side ha
      refine ih fun s hs => ?_
      rcases mem_modify hs with hs | ⟨x, hx, rfl⟩
      · exact h s hs
      · exact give_side (h x hx) no h1 h2
theorem takeAll_length : ∀ {nos : List Int} {xs : List Snap} {k : Nat}, (takeAll xs k nos).length = xs.length := by
  intro nos
  induction nos with
  | nil => intro xs k; rfl
  | cons no nos ih =>
    intro xs k
    rw [takeAll]
    split
    · simp
    · rw [ih]; simp
theorem copiesC_side {Q : Pages} {xs : List Snap} {k : Nat} {nos : List Int} (h : ∀ s ∈ xs, s.side) : ∀ s ∈ copiesC Q xs k nos, s.side := by
  unfold copiesC; split
  · exact h
  · exact takeAll_side h
theorem copiesC_length {Q : Pages} {xs : List Snap} {k : Nat} {nos : List Int} : (copiesC Q xs k nos).length = xs.length := by
  unfold copiesC; split
  · rfl
  · exact takeAll_length
theorem stepS_side {Q : Pages} {but : Int} {nos : List Int} {xs : List Snap} {k : Nat} (h : ∀ s ∈ xs, s.side) : ∀ s ∈ stepS Q but nos xs k, s.side := by
  unfold stepS; split
  · exact h
  · split
    · exact h
    · exact copiesC_side h
theorem stepS_length {Q : Pages} {but : Int} {nos : List Int} {xs : List Snap} {k : Nat} : (stepS Q but nos xs k).length = xs.length := by
  unfold stepS; split
  · rfl
  · split
    · rfl
    · exact copiesC_length
theorem fold_succ {α : Type} (f : α → Nat → α) (a : α) (k : Nat) : (List.range (k + 1)).foldl f a = f ((List.range k).foldl f a) k := by rw [List.range_succ, List.foldl_append]; rfl
theorem nosOf_len (c : Chg) : (nosOf c).length ≤ 32 := Nat.le_trans (List.length_filter_le _ _) (by simp)
theorem nosOf_in {c : Chg} : ∀ no ∈ nosOf c, 0 ≤ no ∧ no < 32 := fun no h => by
  unfold nosOf at h
  obtain ⟨k, hk, rfl⟩ := List.mem_map.1 (List.mem_filter.1 h).1
  rw [List.mem_range] at hk; omega
def nosTo (c : Chg) (i : Nat) : List Int := ((List.range i).map fun k : Nat => (k : Int)).filter fun no => (c no).isSome
theorem nosTo_len (c : Chg) (i : Nat) : (nosTo c i).length ≤ i := Nat.le_trans (List.length_filter_le _ _) (by simp)
theorem nosTo_succ (c : Chg) (i : Nat) : nosTo c (i + 1) = nosTo c i ++ if (c (i : Nat)).isSome = true then [(i : Int)] else [] := by
  unfold nosTo; rw [List.range_succ, List.map_append, List.filter_append]
  congr 1
  simp [List.filter_cons]
theorem sideOf_succ (w s : Snap) (n : Nat) : sideOf w s (n + 1) = sideOf w s n ++ if s.at (n : Nat) ≠ 0 ∧ w.at (n : Nat) ≠ s.at (n : Nat) then [(s.at (n : Nat), (n : Int))] else [] := by
  unfold sideOf; rw [List.range_succ, List.map_append, List.filter_append]
  congr 1
  simp [List.filter_cons]
theorem sides_succ {was xs : List Snap} {k : Nat} {s : Snap} (h : xs[k]? = some s) : sides was (xs.take (k + 1)) = sides was (xs.take k) ++ sideOf (wasOf was s) s 32 := by
  unfold sides; rw [take_succ h, List.flatMap_append, List.flatMap_singleton]
theorem laySides_append (Q : Pages) (c : Chg) (l m : List (Int × Int)) : laySides Q c (l ++ m) = laySides Q (laySides Q c l) m := List.foldl_append
theorem modify_at {α : Type} {l : List α} {k : Nat} {x : α} (h : l[k]? = some x) (f : α → α) : l.modify k f = l.set k (f x) := by
  apply List.ext_getElem?
  intro j
  rw [List.getElem?_modify]
  by_cases e : k = j
  · subst e; rw [h, List.getElem?_set_self (List.getElem?_eq_some_iff.1 h).1]; simp
  · rw [List.getElem?_set_ne e]; simp [e]
theorem enc_inv {s : Snap} (b : Bool) : splice (encSnap s) 2 [.bool b] = encSnap { s with inv := b } := rfl
theorem enc_lose {s : Snap} (h : s.map.length = 32) (m : List Int) (hm : m.length = 32) : splice (encSnap s) 3 (m.map (Value.int .i64)) = encSnap { s with map := m } := by
  unfold splice encSnap
  simp [h, hm]
end Go.Pl
end

section
namespace Go.Pl
open Go Go.Sx
theorem b8_nat {x : Int} (h : x = 0 ∨ (1 ≤ x ∧ x ≤ 255)) : ((b8 x).toNat : Int) = x := by
  unfold b8; rw [UInt8.toNat_ofNat']; omega
theorem map_b8 : ∀ (m : List Int), (∀ x ∈ m, x = 0 ∨ (1 ≤ x ∧ x ≤ 255)) → (m.map b8).map (fun c => (c.toNat : Int)) = m := by
  intro m
  induction m with
  | nil => intro _; rfl
  | cons x m ih =>
    intro h
    rw [List.map_cons, List.map_cons, b8_nat (h x (by simp)), ih fun y hy => h y (by simp [hy])]
theorem snapBytes_len (s : Snap) : (snapBytes s).length = (putText s.name).length + (put s.id).length + 1 + (s.map.length - 1) := by
  unfold snapBytes
  simp only [List.length_append, List.length_map, List.length_drop, List.length_cons, List.length_nil]
theorem oneS_bytes {s : Snap} (h35 : (encSnap s).length = 35) (hn : s.name.size ≤ 65536) (h1 : -9223372036854775808 ≤ s.id) (h2 : s.id ≤ 9223372036854775807)
    (hr : ∀ x ∈ s.map, x = 0 ∨ (1 ≤ x ∧ x ≤ 255)) (hh : s.map.head? = some 0) (rest : List UInt8) : oneS (snapBytes s ++ rest) = (s, ((snapBytes s).length : Int)) := by
  have h32 := map32 h35
  have hlen := snapBytes_len s
  have e : snapBytes s ++ rest = putText s.name ++ (put s.id ++ ([if s.inv then 1 else 0] ++ ((s.map.drop 1).map b8 ++ rest))) := by
    unfold snapBytes; simp only [List.append_assoc]
  unfold oneS
  rw [show getText (snapBytes s ++ rest) = (s.name, ((putText s.name).length : Int), 0) from by rw [e]; exact getText_put hn _]
  dsimp only
  rw [if_neg (by omega)]
  have e1 : (((putText s.name).length : Int)).toNat = (putText s.name).length := by omega
  have e2 : (snapBytes s ++ rest).drop (putText s.name).length = put s.id ++ ([if s.inv then 1 else 0] ++ ((s.map.drop 1).map b8 ++ rest)) := by rw [e, List.drop_left]
  rw [e1, e2, get_put h1 h2]
  dsimp only
  rw [if_neg (by rw [List.length_append]; omega)]
  have e3 : ((putText s.name).length + ((put s.id).length : Int)).toNat = (putText s.name ++ put s.id).length := by rw [List.length_append]; omega
  have e4 : snapBytes s ++ rest = (putText s.name ++ put s.id) ++ ((if s.inv then 1 else 0) :: ((s.map.drop 1).map b8 ++ rest)) := by rw [e]; simp only [List.append_assoc, List.singleton_append]
  have e5 : (snapBytes s ++ rest)[(putText s.name ++ put s.id).length]? = some (if s.inv then (1 : UInt8) else 0) := by
    rw [e4, List.getElem?_append_right (Nat.le_refl _), Nat.sub_self]; rfl
  have e6 : (snapBytes s ++ rest).drop ((putText s.name ++ put s.id).length + 1) = (s.map.drop 1).map b8 ++ rest := by
    rw [e4, List.drop_length_add_append]; rfl
  rw [e3, e5, e6]
  have e7 : mapOf ((s.map.drop 1).map b8 ++ rest) = s.map := by
    unfold mapOf
    have hl : ((s.map.drop 1).map b8).length = 31 := by simp [h32]
    rw [← hl, List.take_left, map_b8 _ fun x hx => hr x (List.mem_of_mem_drop hx)]
    cases hm : s.map with
    | nil => rw [hm] at h32; cases h32
    | cons x m => rw [hm] at hh; rw [← Option.some.inj hh]; rfl
  rw [e7]
  refine Prod.ext ?_ ?_
  · cases s with
    | mk name id inv map =>
      dsimp only
      cases inv <;> rfl
  · dsimp only
    omega
theorem readSnaps_bytes : ∀ (xs : List Snap) (A R : List UInt8), (∀ s ∈ xs, ∀ rest, oneS (snapBytes s ++ rest) = (s, ((snapBytes s).length : Int)) ∧ 0 < (snapBytes s).length) →
    readSnaps (A ++ xs.flatMap snapBytes ++ R) xs.length A.length = some xs := by
  intro xs
  induction xs with
  | nil => intro A R _; rfl
  | cons s xs ih =>
    intro A R h
    rw [List.length_cons, readSnaps]
    have e : A ++ (s :: xs).flatMap snapBytes ++ R = A ++ (snapBytes s ++ (xs.flatMap snapBytes ++ R)) := by simp only [List.flatMap_cons, List.append_assoc]
    rw [e, List.drop_left, (h s (by simp) _).1]
    have := (h s (by simp) []).2
    rw [if_neg (by dsimp only; omega)]
    have e2 : A ++ (snapBytes s ++ (xs.flatMap snapBytes ++ R)) = (A ++ snapBytes s) ++ xs.flatMap snapBytes ++ R := by simp only [List.append_assoc]
    have e3 : A.length + (((snapBytes s).length : Int)).toNat = (A ++ snapBytes s).length := by rw [List.length_append]; omega
    rw [e3, e2, ih _ _ fun t ht => h t (by simp [ht])]
theorem mayOut_head {next : Int} {all : List Snap} : ∀ (l : List Snap) (i : Nat) (last : Int) (a : List Int), (∀ s ∈ l, (encSnap s).length = 35) → mayOut next all i last a l = true → ∀ s ∈ l, s.map.head? = some 0 := by
  intro l
  induction l with
  | nil => intro i last a _ _ s hs; cases hs
  | cons t l ih =>
    intro i last a h35 h s hs
    rw [mayOut] at h
    split at h
    · cases h
    · split at h
      · cases h
      · rename_i a' ha'
        rcases List.mem_cons.1 hs with rfl | hs
        · have h32 := map32 (h35 s (by simp))
          cases hm : s.map with
          | nil => rw [hm] at h32; cases h32
          | cons x m =>
            rw [hm, mayIn] at ha'
            split at ha'
            · rename_i h0; rw [h0]; rfl
            · rw [if_pos (.inr (.inr (.inl rfl)))] at ha'; cases ha'
        · exact ih _ _ _ (fun s hs => h35 s (by simp [hs])) h s hs
theorem may_head {next : Int} {l : List Snap} (h35 : ∀ s ∈ l, (encSnap s).length = 35) (h : mayB next l = true) : ∀ s ∈ l, s.map.head? = some 0 := by
  unfold mayB at h
  split at h
  · cases h
  · exact mayOut_head _ _ _ _ h35 h
/-- there and back -/
theorem decode_encode {next : Int} {xs : List Snap} (h35 : ∀ s ∈ xs, (encSnap s).length = 35) (h : mayB next xs = true) : decodeS (page (catBytes next xs)) = ((next, xs), 0) := by
  obtain ⟨h0, h1, h2, h3⟩ := may_ok h
  have hl := catBytes_length h h35
  have hpl := page_length (l := catBytes next xs) (by omega)
  unfold decodeS
  rw [if_neg (by omega)]
  have e : page (catBytes next xs) = put next ++ (put xs.length ++ (xs.flatMap snapBytes ++ List.replicate (256 - (catBytes next xs).length) 0)) := by
    unfold page
    conv => lhs; arg 1; unfold catBytes
    simp only [List.append_assoc]
  rw [show get (page (catBytes next xs)) = (next, ((put next).length : Int), 0) from by rw [e]; exact get_put (by omega) (by omega) _]
  dsimp only
  rw [if_neg (by omega)]
  have e1 : (((put next).length : Int)).toNat = (put next).length := by omega
  have e2 : (page (catBytes next xs)).drop (put next).length = put xs.length ++ (xs.flatMap snapBytes ++ List.replicate (256 - (catBytes next xs).length) 0) := by rw [e, List.drop_left]
  rw [e1, e2, get_put (by omega) (by omega)]
  dsimp only
  rw [if_neg (by omega)]
  have e3 : (((put next).length : Int) + ((put xs.length).length : Int)).toNat = (put next ++ put xs.length).length := by rw [List.length_append]; omega
  have e4 : ((xs.length : Int)).toNat = xs.length := by omega
  have e5 : page (catBytes next xs) = (put next ++ put xs.length) ++ xs.flatMap snapBytes ++ List.replicate (256 - (catBytes next xs).length) 0 := by rw [e]; simp only [List.append_assoc]
  have hone : ∀ s ∈ xs, ∀ rest, oneS (snapBytes s ++ rest) = (s, ((snapBytes s).length : Int)) ∧ 0 < (snapBytes s).length := by
    intro s hs rest
    obtain ⟨hn, hi, hi2⟩ := h3 s hs
    have hn := (nameB_iff _).1 hn
    refine ⟨oneS_bytes (h35 s hs) (by omega) (by omega) (by omega) (may_range h s hs) (may_head h35 h s hs) rest, ?_⟩
    rw [snapBytes_len]; omega
  rw [e3, e4]
  rw [show readSnaps (page (catBytes next xs)) xs.length (put next ++ put xs.length).length = some xs from by rw [e5]; exact readSnaps_bytes xs _ _ hone]
  dsimp only
  unfold sealed encode
  rw [if_pos h]
  rw [if_neg (by simp)]
/-- any bytes -/
theorem decode_any (l : List UInt8) : decodeS l = ((0, []), 8) ∨ ∃ next s, decodeS l = ((next, s), 0) ∧ (encode next s).1 = l ∧ (encode next s).2 = 0 ∧ (∀ x ∈ s, (encSnap x).length = 35) := by
  unfold decodeS
  split
  · exact .inl rfl
  · generalize get l = p
    obtain ⟨next, at_, e⟩ := p
    dsimp only
    split
    · exact .inl rfl
    · generalize get (l.drop at_.toNat) = q
      obtain ⟨k, n, e2⟩ := q
      dsimp only
      split
      · exact .inl rfl
      · cases hr : readSnaps l k.toNat (at_ + n).toNat with
        | none => exact .inl rfl
        | some s =>
          dsimp only
          unfold sealed
          by_cases hs : (encode next s).2 ≠ 0 ∨ (encode next s).1 ≠ l
          · rw [if_pos hs]; exact .inl rfl
          · rw [if_neg hs]
            refine .inr ⟨next, s, rfl, ?_, ?_, (readSnaps_len _ _ _ hr).2⟩
            · exact Decidable.byContradiction fun h => hs (.inr h)
            · exact Decidable.byContradiction fun h => hs (.inl h)
theorem eqSnap_refl (s : Snap) : eqSnap s s = true := by unfold eqSnap; simp
theorem eqSnaps_refl : ∀ l : List Snap, eqSnaps l l = true := by
  intro l
  induction l with
  | nil => rfl
  | cons s l ih => rw [eqSnaps, eqSnap_refl, ih]; rfl
theorem eqCat_refl (n : Int) (l : List Snap) : eqCat n l n l = true := by unfold eqCat; rw [eqSnaps_refl]; simp
theorem eqSnap_iff (a b : Snap) : eqSnap a b = true ↔ a = b := by
  unfold eqSnap
  cases a; cases b
  simp only [Bool.and_eq_true, decide_eq_true_eq, beq_iff_eq, Snap.mk.injEq, and_assoc]
theorem eqSnaps_iff : ∀ a b : List Snap, a.length = b.length → (eqSnaps a b = true ↔ a = b) := by
  intro a
  induction a with
  | nil => intro b h; cases b with
    | nil => simp [eqSnaps]
    | cons y b => cases h
  | cons x a ih => intro b h; cases b with
    | nil => cases h
    | cons y b =>
      rw [eqSnaps, Bool.and_eq_true, eqSnap_iff, ih b (by simpa using h)]
      simp
theorem eqCat_iff (n : Int) (a : List Snap) (m : Int) (b : List Snap) : eqCat n a m b = true ↔ n = m ∧ a = b := by
  unfold eqCat
  rw [Bool.and_eq_true, Bool.and_eq_true, decide_eq_true_eq, decide_eq_true_eq]
  constructor
  · rintro ⟨⟨h1, h2⟩, h3⟩; exact ⟨h1, (eqSnaps_iff a b h2).1 h3⟩
  · rintro ⟨rfl, rfl⟩; exact ⟨⟨rfl, rfl⟩, eqSnaps_refl _⟩
/-- two catalogs that may be have one page just if they are the same -/
theorem twins {n m : Int} {a b : List Snap} (ha : mayB n a = true) (hb : mayB m b = true) (h35a : ∀ s ∈ a, (encSnap s).length = 35) (h35b : ∀ s ∈ b, (encSnap s).length = 35) :
    page (catBytes n a) = page (catBytes m b) ↔ n = m ∧ a = b := by
  constructor
  · intro h
    have h1 := decode_encode h35a ha
    have h2 := decode_encode h35b hb
    rw [h, h2] at h1
    simp only [Prod.mk.injEq, and_true] at h1
    exact ⟨h1.1.symm, h1.2.symm⟩
  · rintro ⟨rfl, rfl⟩; rfl
end Go.Pl
end

section
namespace Go.Pl
open Go Go.Sx
theorem enc_may {n : Int} {s : List Snap} (h : (encode n s).2 = 0) : mayB n s = true := by
  unfold encode at h
  split at h
  · assumption
  · cases h
def sA : Snap := newSnap ⟨#[97]⟩ 1
def sB : Snap := newSnap ⟨#[98]⟩ 2
theorem add1 : addC 0 [] ⟨#[97]⟩ = ((1, [sA]), 0) := by kernel_rfl
theorem add2 : addC 1 [sA] ⟨#[98]⟩ = ((2, [sA, sB]), 0) := by kernel_rfl
theorem add3 : addC 2 [sA, sB] ⟨#[97]⟩ = ((0, []), 7) := by kernel_rfl
theorem drop1 : dropC 2 [sA, sB] ⟨#[97]⟩ = ((2, [sB]), 0) := by kernel_rfl
theorem mayB1 : mayB 2 [sB] = true := by kernel_rfl
theorem mayB0 : mayB 0 [] = true := by kernel_rfl
theorem enc1 : encode 2 [sB] = (page (catBytes 2 [sB]), 0) := by unfold encode; rw [if_pos mayB1]
theorem h35B : ∀ s ∈ [sB], (encSnap s).length = 35 := by intro s hs; rw [List.mem_singleton] at hs; subst hs; rfl
theorem dec1 : decodeS (page (catBytes 2 [sB])) = ((2, [sB]), 0) := decode_encode h35B mayB1
theorem len1 : (page (catBytes 2 [sB])).length = 256 := page_length (by have := catBytes_length mayB1 h35B; omega)
theorem page0 : page (catBytes 0 []) = List.replicate 256 0 := by
  have e : catBytes 0 [] = [0, 0] := by
    unfold catBytes put
    rw [show zig 0 = 0 from rfl, show zig (([] : List Snap).length : Int) = 0 from rfl, putU_small (by omega)]
    rfl
  rw [e]
  rfl
theorem dec0 : decodeS (List.replicate 256 0) = ((0, []), 0) := by rw [← page0]; exact decode_encode (by simp) mayB0
theorem cop1 : copiesP [sB] = [] := by
  unfold copiesP
  rw [show gather [sB] = [] by kernel_rfl, List.mergeSort_nil]
theorem take1 : takeP [sB] = (32, true) := by
  unfold takeP; rw [cop1]; rfl
theorem findb : findAt (named ⟨#[98]⟩) 0 [sB] = 0 := by kernel_rfl
theorem finda : findAt (named ⟨#[97]⟩) 0 [sB] = -1 := by kernel_rfl
theorem namea : nameB ⟨#[97]⟩ = true := by kernel_rfl
theorem name0 : nameB ⟨#[]⟩ = false := by kernel_rfl
end Go.Pl
end

section
namespace Go.Pl
open Go Go.Sx
/-- the four that stand first -/
def four : List Snap := [newSnap ⟨#[97]⟩ 1, newSnap ⟨#[98]⟩ 2, newSnap ⟨#[99]⟩ 3, newSnap ⟨#[100]⟩ 4]
theorem addT : ∀ i : Nat, i < 4 → addC i (four.take i) (txt [b8 (97 + (i : Int))]) = ((((i + 1 : Nat) : Int), four.take (i + 1)), 0)
  | 0, _ => by kernel_rfl
  | 1, _ => by kernel_rfl
  | 2, _ => by kernel_rfl
  | 3, _ => by kernel_rfl
  | i + 4, h => absurd h (by omega)
def setMap (s : Snap) (j : Nat) (x : Int) : Snap := { s with map := s.map.set j x }
/-- behind m takes -/
def st : Nat → List Snap
  | 0 => four
  | m + 1 => if m < 64 then (st m).set (m % 4) (setMap ((st m)[m % 4]?.getD zeroSnap) (1 + m / 4) (32 + m)) else st m
def upto (m : Nat) : List Int := (List.range m).map fun (k : Nat) => 32 + (k : Int)
theorem st_len : ∀ m, (st m).length = 4
  | 0 => rfl
  | m + 1 => by rw [st]; split <;> simp [st_len m]
theorem st_35 : ∀ m, ∀ s ∈ st m, (encSnap s).length = 35
  | 0 => by intro s hs; simp only [st, four, List.mem_cons, List.not_mem_nil, or_false] at hs; rcases hs with rfl | rfl | rfl | rfl <;> rfl
  | m + 1 => by
    rw [st]
    split
    · intro s hs
      rcases List.mem_or_eq_of_mem_set hs with hs | rfl
      · exact st_35 m s hs
      · rw [len_snap]
        unfold setMap
        have hl := st_len m
        obtain ⟨x, hx⟩ := nth (l := st m) (i := m % 4) (by omega)
        rw [hx]
        have := st_35 m x (List.mem_of_getElem? hx)
        rw [len_snap] at this
        simpa using this
    · exact st_35 m
theorem perms : ∀ m : Fin 65, (gather (st m.val)).isPerm (upto m.val) = true := by decide +kernel
theorem mays : ∀ m : Fin 65, mayB 4 (st m.val) = true := by decide +kernel
theorem st_big : ∀ m, 64 ≤ m → st m = st 64 := by
  intro m h
  induction m with
  | zero => omega
  | succ m ih =>
    by_cases e : m + 1 = 64
    · rw [e]
    · rw [st, if_neg (by omega)]; exact ih (by omega)
theorem copT (m : Nat) : copiesP (st m) = upto (min m 64) := by
  have hp : ∀ k : Nat, k ≤ 64 → copiesP (st k) = upto k := by
    intro k hk
    have h1 := List.isPerm_iff.1 (perms ⟨k, by omega⟩)
    have hp1 : (copiesP (st k)).Perm (gather (st k)) := List.mergeSort_perm _ _
    have hs1 : (copiesP (st k)).Pairwise fun a b => decide (a ≤ b) = true :=
      List.pairwise_mergeSort (fun a b c h1 h2 => by simp only [decide_eq_true_eq] at *; omega) (fun a b => by simp only [Bool.or_eq_true, decide_eq_true_eq]; omega) _
    have hs2 : (upto k).Pairwise fun a b => decide (a ≤ b) = true := by
      unfold upto
      rw [List.pairwise_map]
      exact List.Pairwise.imp (fun h => by simp only [decide_eq_true_eq]; omega) List.pairwise_lt_range
    exact List.Perm.eq_of_pairwise (fun a b _ _ h1 h2 => by simp only [decide_eq_true_eq] at *; omega) hs1 hs2 (hp1.trans h1)
  by_cases h : m ≤ 64
  · rw [hp m h, Nat.min_eq_left h]
  · rw [st_big m (by omega), hp 64 (Nat.le_refl _), Nat.min_eq_right (by omega)]
theorem mem_upto {m : Nat} {x : Int} : x ∈ upto m ↔ 32 ≤ x ∧ x < 32 + m := by
  unfold upto
  simp only [List.mem_map, List.mem_range]
  constructor
  · rintro ⟨k, hk, rfl⟩; omega
  · rintro ⟨h1, h2⟩; exact ⟨(x - 32).toNat, by omega, by omega⟩
theorem free_upto : ∀ (k : Nat) (j m : Nat), j ≤ m → freeAt k (32 + (j : Int)) (upto m) = if m < j + k then (32 + (m : Int), true) else (0, false) := by
  intro k
  induction k with
  | zero => intro j m h; rw [freeAt, if_neg (by omega)]
  | succ k ih =>
    intro j m h
    rw [freeAt]
    by_cases e : j = m
    · subst e
      rw [if_neg (by rw [mem_upto]; omega), if_pos (by omega)]
    · rw [if_pos (mem_upto.2 ⟨by omega, by omega⟩), show (32 : Int) + j + 1 = 32 + ((j + 1 : Nat) : Int) by omega, ih (j + 1) m (by omega)]
      by_cases h2 : m < j + (k + 1)
      · rw [if_pos h2, if_pos (by omega)]
      · rw [if_neg h2, if_neg (by omega)]
theorem takeT (m : Nat) : takeP (st m) = (if m < 64 then 32 + (m : Int) else 0, decide (m < 64)) := by
  unfold takeP
  rw [copT]
  have := free_upto 64 0 (min m 64) (by omega)
  rw [show (32 : Int) + ((0 : Nat) : Int) = 32 by omega] at this
  rw [this]
  by_cases h : m < 64
  · rw [if_pos (by omega), if_pos h, decide_eq_true h, Nat.min_eq_left (by omega)]
  · rw [if_neg (by omega), if_neg h, decide_eq_false h]
theorem mayT (m : Nat) : mayB 4 (st m) = true := by
  by_cases h : m ≤ 64
  · exact mays ⟨m, by omega⟩
  · rw [st_big m (by omega)]; exact mays ⟨64, by omega⟩
theorem st_set {m : Nat} (h : m < 64) {s : Snap} (hs : (st m)[m % 4]? = some s) : st (m + 1) = (st m).set (m % 4) (setMap s (1 + m / 4) (32 + m)) := by
  rw [st, if_pos h, hs]; rfl
theorem setMap_splice {s : Snap} (h : (encSnap s).length = 35) {j : Nat} (hj : j < 32) (x : Int) : splice (encSnap s) (3 + j) [.int .i64 x] = encSnap (setMap s j x) := by
  have h32 := map32 h
  have := snap_set (s := s) (no := j) (x := x) (by omega)
  rw [show 0 + 3 + ((j : Int)).toNat * 1 = 3 + j by omega] at this
  exact this
theorem dec64 (m : Nat) : (!(decide (m < 64) == decide ((m : Int) < 64))) = false := by
  have : ((m : Int) < 64) ↔ m < 64 := by omega
  simp [this]
theorem upto_length (m : Nat) : (upto m).length = m := by unfold upto; simp
theorem upto_at {m k : Nat} (h : k < m) : (upto m)[k]? = some (32 + (k : Int)) := by
  unfold upto
  rw [List.getElem?_map, List.getElem?_range h]
  rfl
theorem tmod4 (m : Nat) : (m : Int).tmod 4 = ((m % 4 : Nat) : Int) := by rw [Int.tmod_eq_emod_of_nonneg (by omega)]; omega
theorem tdiv4 (m : Nat) : (m : Int).tdiv 4 = ((m / 4 : Nat) : Int) := by rw [Int.tdiv_eq_ediv_of_nonneg (by omega)]; omega
end Go.Pl
end

section
namespace Go.Pl
open Go Go.Sx
theorem whole_le (l : List UInt8) : (whole l).length ≤ 256 := by
  unfold whole
  split
  · simp
  · rw [page_length (by omega)]; omega
theorem bytesR_len {next : Int} {l : List Snap} (h35 : ∀ s ∈ l, (encSnap s).length = 35) (h : ¬ ((catBytesR next l).length : Int) = 0) : (catBytesR next l).length = 256 := by
  rw [bytes_eq h35] at h ⊢
  unfold encode at h ⊢
  by_cases hm : mayB next l = true
  · rw [if_pos hm]
    exact page_length (by have := catBytes_length hm h35; omega)
  · rw [if_neg hm] at h
    exact (h rfl).elim
theorem cutS_size (s : ByteArray) (n : Nat) : (cutS s n).size ≤ n := by
  unfold cutS
  split
  · rw [ByteArray.size_extract]; omega
  · omega
theorem cut_names {l xs : List Snap} (h : (xs.take 6).map cutSnap = l) : ∀ s ∈ l, s.name.size ≤ 10 := by
  subst h
  intro s hs
  obtain ⟨t, _, rfl⟩ := List.mem_map.1 hs
  exact cutS_size _ _
theorem cut_len {l xs : List Snap} (h : (xs.take 6).map cutSnap = l) : l.length ≤ 6 := by
  subst h
  rw [List.length_map]
  exact List.length_take_le _ _
theorem put_name (s : Snap) (t : ByteArray) : splice (encSnap s) 0 [.string t] = encSnap { s with name := t } := rfl
theorem put_id (s : Snap) (n : Int) : splice (encSnap s) 1 [.int .i64 n] = encSnap { s with id := n } := rfl
theorem put_inv (s : Snap) (b : Bool) : splice (encSnap s) 2 [.bool b] = encSnap { s with inv := b } := rfl
theorem txt_eq (a b : List UInt8) : txt a = txt b ↔ a = b := by
  constructor
  · intro h; injection h with h; injection h
  · intro h; rw [h]
theorem tw {n m : Int} {a b : List Snap} (ha : (encode n a).2 = 0) (hb : (encode m b).2 = 0) (h35a : ∀ s ∈ a, (encSnap s).length = 35) (h35b : ∀ s ∈ b, (encSnap s).length = 35) :
    (decide (txt (encode n a).1 = txt (encode m b).1) == eqCat n a m b) = true := by
  have h1 := enc_may ha
  have h2 := enc_may hb
  have e1 : (encode n a).1 = page (catBytes n a) := by unfold encode; rw [if_pos h1]
  have e2 : (encode m b).1 = page (catBytes m b) := by unfold encode; rw [if_pos h2]
  rw [e1, e2, beq_iff_eq, Bool.eq_iff_iff, decide_eq_true_iff, txt_eq, eqCat_iff]
  exact twins h1 h2 h35a h35b
end Go.Pl
end

section
namespace Go.Pl
open Go Go.Sx
theorem findAt_none {α : Type} (p : α → Bool) : ∀ (l : List α) (i : Nat), (∀ x ∈ l, p x = false) → findAt p i l = -1 := by
  intro l
  induction l with
  | nil => intro i _; rfl
  | cons x l ih =>
    intro i h
    rw [findAt, if_neg (by rw [h x (by simp)]; decide)]
    exact ih _ fun y hy => h y (by simp [hy])
theorem findAt_neg {α : Type} {p : α → Bool} {l : List α} {i : Nat} (h : ¬ 0 ≤ findAt p i l) : ∀ x ∈ l, p x = false := by
  intro x hx
  cases hp : p x with
  | false => rfl
  | true => exact absurd ((findAt_nonneg p l i).2 ⟨x, hx, hp⟩) h
theorem findAt_snoc {α : Type} (p : α → Bool) (x : α) : ∀ (l : List α) (i : Nat), findAt p i (l ++ [x]) = if 0 ≤ findAt p i l then findAt p i l else if p x = true then ((i + l.length : Nat) : Int) else -1 := by
  intro l
  induction l with
  | nil =>
    intro i
    show (if p x = true then (i : Int) else -1) = if 0 ≤ (-1 : Int) then (-1 : Int) else if p x = true then ((i + 0 : Nat) : Int) else -1
    rw [if_neg (show ¬ (0 : Int) ≤ -1 by omega)]
    rfl
  | cons y l ih =>
    intro i
    show findAt p i (y :: (l ++ [x])) = _
    rw [findAt, findAt]
    by_cases h : p y = true
    · rw [if_pos h, if_pos h, if_pos (by omega)]
    · rw [if_neg h, if_neg h, ih]
      simp only [List.length_cons]
      rw [show i + 1 + l.length = i + (l.length + 1) by omega]
theorem findAt_cat {α : Type} (p : α → Bool) : ∀ (l r : List α) (i : Nat), (∀ x ∈ l, p x = false) → findAt p i (l ++ r) = findAt p (i + l.length) r := by
  intro l
  induction l with
  | nil => intro r i _; rfl
  | cons y l ih =>
    intro r i h
    show findAt p i (y :: (l ++ r)) = _
    rw [findAt, if_neg (by rw [h y (by simp)]; decide), ih _ _ fun x hx => h x (by simp [hx])]
    simp only [List.length_cons]
    rw [show i + 1 + l.length = i + (l.length + 1) by omega]
theorem findAt_at {α : Type} {p : α → Bool} {l : List α} {k : Nat} {x : α} (hx : l[k]? = some x) (hp : p x = true) (h : ∀ y ∈ l.take k, p y = false) : findAt p 0 l = k := by
  have hk : k < l.length := (List.getElem?_eq_some_iff.1 hx).1
  have e : l = l.take k ++ (x :: l.drop (k + 1)) := by rw [← drop_cons hx, List.take_append_drop]
  rw [e, findAt_cat _ _ _ _ h, findAt, if_pos hp, List.length_take]
  omega
theorem findAt_map {α β : Type} (f : α → β) (p : β → Bool) : ∀ (l : List α) (i : Nat), findAt p i (l.map f) = findAt (fun x => p (f x)) i l := by
  intro l
  induction l with
  | nil => intro i; rfl
  | cons x l ih => intro i; rw [List.map_cons, findAt, findAt, ih]
theorem mayOut_names {next : Int} {all : List Snap} : ∀ (l : List Snap) (i : Nat) (last : Int) (a : List Int), all.drop i = l → mayOut next all i last a l = true → ∀ k s, i ≤ k → all[k]? = some s → ¬ 0 ≤ findAt (named s.name) 0 (all.take k) := by
  intro l
  induction l with
  | nil =>
    intro i last a hd _ k s hk hs
    have := (List.getElem?_eq_some_iff.1 hs).1
    have hlen : (all.drop i).length = 0 := by rw [hd]; rfl
    rw [List.length_drop] at hlen
    omega
  | cons t l ih =>
    intro i last a hd h k s hk hs
    have hat : all[i]? = some t := by
      have := congrArg (·[0]?) hd
      simpa using this
    have hd1 : all.drop (i + 1) = l := by
      have := congrArg (List.drop 1) hd
      simpa using this
    rw [mayOut] at h
    split at h
    · cases h
    · rename_i hc
      split at h
      · cases h
      · by_cases e : k = i
        · subst e
          rw [hat] at hs
          obtain rfl := Option.some.inj hs
          intro hf
          exact hc (.inr (.inl hf))
        · exact ih _ _ _ hd1 h k s (by omega) hs
theorem may_names {next : Int} {l : List Snap} (h : mayB next l = true) {k : Nat} {s : Snap} (hs : l[k]? = some s) : ¬ 0 ≤ findAt (named s.name) 0 (l.take k) := by
  unfold mayB at h
  split at h
  · cases h
  · exact mayOut_names l 0 0 [] rfl h k s (by omega) hs
/-- one more looked at: it is the one, or is not -/
theorem find_step {next : Int} {l : List Snap} (h : mayB next l = true) {k : Nat} {s : Snap} (hs : l[k]? = some s) (nm : ByteArray) :
    findAt (named nm) 0 (l.take (k + 1)) = if s.name = nm then (k : Int) else findAt (named nm) 0 (l.take k) := by
  have hk : k < l.length := (List.getElem?_eq_some_iff.1 hs).1
  rw [take_succ hs, findAt_snoc]
  by_cases e : s.name = nm
  · subst e
    rw [if_pos rfl, if_neg (may_names h hs), if_pos (by unfold named; simp), List.length_take]
    omega
  · rw [if_neg e]
    by_cases h0 : 0 ≤ findAt (named nm) 0 (l.take k)
    · rw [if_pos h0]
    · rw [if_neg h0, if_neg (by unfold named; simpa using e)]
      exact (findAt_none _ _ _ (findAt_neg h0)).symm

/-! ### catalogs of names -/
structure Shot (n : Int) (L : List Snap) : Prop where
  pw : L.Pairwise fun a b => a.id < b.id ∧ a.name ≠ b.name
  each : ∀ s ∈ L, 1 ≤ s.id ∧ s.id ≤ n ∧ nameB s.name = true ∧ s.map = List.replicate 32 0
theorem mayIn_zero (inv : Bool) (seen : List Int) : ∀ k no : Nat, mayIn inv no (List.replicate k 0) seen = some seen := by
  intro k
  induction k with
  | zero => intro no; rfl
  | succ k ih => intro no; rw [List.replicate_succ, mayIn, if_pos rfl]; exact ih _
theorem shot_out {n : Int} {all : List Snap} (h : Shot n all) : ∀ (l pre : List Snap) (last : Int), all = pre ++ l → (∀ s ∈ l, last < s.id) → mayOut n all pre.length last [] l = true := by
  intro l
  induction l with
  | nil => intro pre last _ _; rfl
  | cons s l ih =>
    intro pre last e hlast
    have hs : s ∈ all := by rw [e]; simp
    obtain ⟨h1, h2, h3, h4⟩ := h.each s hs
    have hpw := h.pw
    rw [e, List.pairwise_append] at hpw
    obtain ⟨_, hpw2, hpw3⟩ := hpw
    rw [List.pairwise_cons] at hpw2
    have htake : all.take pre.length = pre := by rw [e, List.take_left]
    have hf : ¬ 0 ≤ findAt (named s.name) 0 (all.take pre.length) := by
      rw [htake, findAt_nonneg]
      rintro ⟨x, hx, hx2⟩
      unfold named at hx2
      exact (hpw3 x hx s (by simp)).2 (by simpa using hx2)
    rw [mayOut, if_neg]
    · rw [h4, mayIn_zero]
      have := ih (pre ++ [s]) s.id (by rw [e]; simp) fun t ht => (hpw2.1 t ht).1
      rw [List.length_append] at this
      exact this
    · rintro (hh | hh | hh | hh)
      · rw [h3] at hh; cases hh
      · exact hf hh
      · have := hlast s (by simp); omega
      · omega
theorem shot_may {n : Int} {L : List Snap} (h : Shot n L) (h0 : 0 ≤ n) (h1 : n ≤ 1099511627776) (hl : L.length ≤ 4) : mayB n L = true := by
  unfold mayB
  rw [if_neg (by omega)]
  exact shot_out h L [] 0 rfl fun s hs => by have := (h.each s hs).1; omega
theorem shot_35 {n : Int} {L : List Snap} (h : Shot n L) : ∀ s ∈ L, (encSnap s).length = 35 := by
  intro s hs
  rw [len_snap, (h.each s hs).2.2.2]
  rfl
theorem shot_nil : Shot 0 [] := ⟨List.Pairwise.nil, by simp⟩
theorem shot_drop {n : Int} {L : List Snap} (h : Shot n L) (j : Nat) : Shot n (L.take j ++ L.drop (j + 1)) := by
  rw [← List.eraseIdx_eq_take_drop_succ]
  have hs := List.eraseIdx_sublist L j
  exact ⟨h.pw.sublist hs, fun s hm => h.each s (hs.subset hm)⟩
theorem shot_add {n : Int} {L : List Snap} (h : Shot n L) (h0 : 0 ≤ n) {nm : ByteArray} (hn : nameB nm = true) (hf : ¬ 0 ≤ findAt (named nm) 0 L) : Shot (n + 1) (L ++ [newSnap nm (n + 1)]) := by
  refine ⟨?_, ?_⟩
  · rw [List.pairwise_append]
    refine ⟨h.pw, by simp, ?_⟩
    intro a ha b hb
    rw [List.mem_singleton] at hb
    subst hb
    have h1 := (h.each a ha).2.1
    have h2 := findAt_neg hf a ha
    unfold named at h2
    refine ⟨by show a.id < n + 1; omega, by simpa [newSnap] using h2⟩
  · intro s hs
    rcases List.mem_append.1 hs with hs | hs
    · have := h.each s hs
      exact ⟨this.1, by omega, this.2.2⟩
    · rw [List.mem_singleton] at hs
      subst hs
      exact ⟨by show (1 : Int) ≤ n + 1; omega, by show n + 1 ≤ n + 1; omega, hn, rfl⟩
/-- who has which name, seen from the names alone -/
def isNm (nm : ByteArray) (x : ByteArray) : Bool := decide (x = nm)
def names (L : List Snap) : List ByteArray := L.map Snap.name
theorem names_find (nm : ByteArray) (L : List Snap) (i : Nat) : findAt (isNm nm) i (names L) = findAt (named nm) i L := by
  unfold names
  rw [findAt_map]
  rfl
theorem shot_step {n : Int} {L : List Snap} (h : Shot n L) (h0 : 0 ≤ n) (h1 : n ≤ 1099511627776) (hl : L.length ≤ 4) {k : Nat} {x : ByteArray} (hx : (names L)[k]? = some x) (nm : ByteArray) :
    findAt (named nm) 0 (L.take (k + 1)) = if x = nm then (k : Int) else findAt (named nm) 0 (L.take k) := by
  unfold names at hx
  rw [List.getElem?_map, Option.map_eq_some_iff] at hx
  obtain ⟨s, hs, rfl⟩ := hx
  exact find_step (shot_may h h0 h1 hl) hs nm
theorem shot_self {n : Int} {L : List Snap} (h : Shot n L) (h0 : 0 ≤ n) (h1 : n ≤ 1099511627776) (hl : L.length ≤ 4) {k : Nat} {s : Snap} (hs : L[k]? = some s) : findAt (named s.name) 0 L = k :=
  findAt_at hs (by unfold named; simp) (findAt_neg (may_names (shot_may h h0 h1 hl) hs))
theorem names_length (L : List Snap) : (names L).length = L.length := by unfold names; simp
theorem names_cut (L : List Snap) (j : Nat) : (names L).take j ++ (names L).drop (j + 1) = names (L.take j ++ L.drop (j + 1)) := by
  unfold names; rw [List.map_append, List.map_take, List.map_drop]
theorem names_snoc (L : List Snap) (nm : ByteArray) (n : Int) : names L ++ [nm] = names (L ++ [newSnap nm n]) := by
  unfold names; rw [List.map_append]; rfl
theorem names_at {L : List Snap} {k : Nat} {s : Snap} (h : L[k]? = some s) : (names L)[k]? = some s.name := by
  unfold names; rw [List.getElem?_map, h]; rfl
theorem enc_err {n : Int} {l : List Snap} {b : Bool} (h : mayB n l = b) : (encode n l).2 = if b = true then 0 else 1 := by
  unfold encode
  rw [h]
  cases b <;> rfl
theorem enc_page {n : Int} {l : List Snap} (h : mayB n l = true) : (encode n l).1 = page (catBytes n l) := by
  unfold encode
  rw [if_pos h]
theorem take_eq {n : Int} {l : List Snap} (h : mayB n l = true) : takeR l = takeP l := by
  unfold takeR takeP
  rw [copies_eq (may_range h)]
end Go.Pl
end

section
namespace Go.Pl
open Go Go.Sx

def MapOk (s : Snap) : Prop := (∀ x, s.map.head? = some x → x = 0) ∧ (∀ a ∈ s.map, a = 0 ∨ (32 ≤ a ∧ a < 96 ∧ s.inv = false)) ∧ (not0 s.map).Nodup
theorem mem_not0 {m : List Int} {a : Int} : a ∈ not0 m ↔ a ∈ m ∧ a ≠ 0 := by unfold not0; simp
theorem mayIn_iff (inv : Bool) : ∀ (m : List Int) (no : Nat) (seen seen' : List Int), mayIn inv no m seen = some seen' ↔
    (seen' = seen ++ not0 m ∧ (∀ a ∈ m, a = 0 ∨ (32 ≤ a ∧ a < 96 ∧ inv = false)) ∧ (no = 0 → ∀ x, m.head? = some x → x = 0) ∧ (not0 m).Nodup ∧ ∀ a ∈ not0 m, a ∉ seen) := by
  intro m
  induction m with
  | nil => intro no seen seen'; simp [mayIn, not0, eq_comm]
  | cons y m ih =>
    intro no seen seen'
    rw [mayIn]
    by_cases h0 : y = 0
    · subst h0
      have e : not0 (0 :: m) = not0 m := by simp [not0]
      rw [if_pos rfl, ih, e]
      constructor
      · rintro ⟨h1, h2, h3, h4, h5⟩
        exact ⟨h1, fun a ha => (List.mem_cons.1 ha).elim .inl (h2 a), fun _ x hx => (Option.some.inj hx).symm, h4, h5⟩
      · rintro ⟨h1, h2, h3, h4, h5⟩
        exact ⟨h1, fun a ha => h2 a (List.mem_cons_of_mem _ ha), fun h => by omega, h4, h5⟩
    · have e : not0 (y :: m) = y :: not0 m := by simp [not0, h0]
      rw [if_neg h0]
      by_cases hc : y < 32 ∨ 96 ≤ y ∨ no = 0 ∨ inv = true ∨ y ∈ seen
      · rw [if_pos hc]
        refine ⟨(fun h => by cases h), ?_⟩
        rintro ⟨h1, h2, h3, h4, h5⟩
        exfalso
        have h2y := (h2 y (by simp)).resolve_left h0
        rcases hc with hc | hc | hc | hc | hc
        · omega
        · omega
        · exact h0 (h3 hc y rfl)
        · rw [h2y.2.2] at hc; cases hc
        · exact h5 y (by rw [e]; simp) hc
      · rw [if_neg hc, ih, e]
        have hy1 : 32 ≤ y := Int.not_lt.1 fun h => hc (.inl h)
        have hy2 : y < 96 := Int.not_le.1 fun h => hc (.inr (.inl h))
        have hy3 : no ≠ 0 := fun h => hc (.inr (.inr (.inl h)))
        have hy4 : inv = false := by cases hi : inv with | false => rfl | true => exact (hc (.inr (.inr (.inr (.inl hi))))).elim
        have hy5 : y ∉ seen := fun h => hc (.inr (.inr (.inr (.inr h))))
        constructor
        · rintro ⟨h1, h2, h3, h4, h5⟩
          refine ⟨by rw [h1, List.append_assoc]; rfl, fun a ha => ?_, fun h => absurd h hy3, List.nodup_cons.2 ⟨fun h => h5 y h (by simp), h4⟩, fun a ha => ?_⟩
          · rcases List.mem_cons.1 ha with rfl | ha
            · exact .inr ⟨hy1, hy2, hy4⟩
            · exact h2 a ha
          · rcases List.mem_cons.1 ha with rfl | ha
            · exact hy5
            · exact fun h => h5 a ha (by simp [h])
        · rintro ⟨h1, h2, h3, h4, h5⟩
          obtain ⟨h6, h7⟩ := List.nodup_cons.1 h4
          refine ⟨by rw [h1, List.append_assoc]; rfl, fun a ha => h2 a (List.mem_cons_of_mem _ ha), fun h => by omega, h7, fun a ha hs => ?_⟩
          rcases List.mem_append.1 hs with hs | hs
          · exact h5 a (List.mem_cons_of_mem _ ha) hs
          · rw [List.mem_singleton] at hs; subst hs; exact h6 ha
theorem gather_cons (s : Snap) (l : List Snap) : gather (s :: l) = not0 s.map ++ gather l := List.flatMap_cons
theorem mayOut_iff (next : Int) : ∀ (l pre : List Snap) (last : Int) (seen : List Int), mayOut next (pre ++ l) pre.length last seen l = true ↔
    ((∀ s ∈ l, nameB s.name = true ∧ last < s.id ∧ s.id ≤ next ∧ MapOk s) ∧ (l.Pairwise fun a b => a.id < b.id) ∧ (∀ s ∈ l, ∀ x ∈ pre, x.name ≠ s.name) ∧ (l.Pairwise fun a b => a.name ≠ b.name) ∧ (gather l).Nodup ∧ ∀ a ∈ gather l, a ∉ seen) := by
  intro l
  induction l with
  | nil => intro pre last seen; simp [mayOut, gather]
  | cons s l ih =>
    intro pre last seen
    rw [mayOut, List.take_left, gather_cons]
    have hf : 0 ≤ findAt (named s.name) 0 pre ↔ ∃ x ∈ pre, x.name = s.name := by
      rw [findAt_nonneg]; unfold named; simp
    have hpl : pre ++ s :: l = (pre ++ [s]) ++ l := by simp
    have hln : (pre ++ [s]).length = pre.length + 1 := by simp
    by_cases hc : nameB s.name = false ∨ 0 ≤ findAt (named s.name) 0 pre ∨ s.id ≤ last ∨ next < s.id
    · rw [if_pos hc]
      refine ⟨(fun h => by cases h), ?_⟩
      rintro ⟨h1, h2, h3, _⟩
      exfalso
      obtain ⟨a1, a2, a3, a4⟩ := h1 s (by simp)
      rcases hc with hc | hc | hc | hc
      · rw [a1] at hc; cases hc
      · obtain ⟨x, hx, hxe⟩ := hf.1 hc; exact h3 s (by simp) x hx hxe
      · omega
      · omega
    · rw [if_neg hc]
      have b1 : nameB s.name = true := by cases h : nameB s.name with | true => rfl | false => exact (hc (.inl h)).elim
      have b2 : ∀ x ∈ pre, x.name ≠ s.name := fun x hx e => hc (.inr (.inl (hf.2 ⟨x, hx, e⟩)))
      have b3 : last < s.id := Int.not_le.1 fun h => hc (.inr (.inr (.inl h)))
      have b4 : s.id ≤ next := Int.not_lt.1 fun h => hc (.inr (.inr (.inr h)))
      constructor
      · intro h
        split at h
        · cases h
        · rename_i seen' hm
          rw [hpl, ← hln] at h
          obtain ⟨m1, m2, m3, m4, m5⟩ := (mayIn_iff ..).1 hm
          subst m1
          obtain ⟨h1, h2, h3, h4, h5, h6⟩ := (ih ..).1 h
          refine ⟨fun t ht => ?_, List.pairwise_cons.2 ⟨fun t ht => (h1 t ht).2.1, h2⟩, fun t ht x hx => ?_, List.pairwise_cons.2 ⟨fun t ht => h3 t ht s (by simp), h4⟩, ?_, fun a ha => ?_⟩
          · rcases List.mem_cons.1 ht with rfl | ht
            · exact ⟨b1, b3, b4, m3 rfl, m2, m4⟩
            · obtain ⟨c1, c2, c3, c4⟩ := h1 t ht; exact ⟨c1, by omega, c3, c4⟩
          · rcases List.mem_cons.1 ht with rfl | ht
            · exact b2 x hx
            · exact h3 t ht x (by simp [hx])
          · exact List.nodup_append.2 ⟨m4, h5, fun a ha b hb e => h6 b hb (by rw [← e]; simp [ha])⟩
          · rcases List.mem_append.1 ha with ha | ha
            · exact m5 a ha
            · exact fun hs => h6 a ha (by simp [hs])
      · rintro ⟨h1, h2, h3, h4, h5, h6⟩
        obtain ⟨a1, a2, a3, a4, a5, a6⟩ := h1 s (by simp)
        obtain ⟨n1, n2, n3⟩ := List.nodup_append.1 h5
        obtain ⟨p1, p2⟩ := List.pairwise_cons.1 h2
        obtain ⟨q1, q2⟩ := List.pairwise_cons.1 h4
        rw [(mayIn_iff s.inv s.map 0 seen _).2 ⟨rfl, a5, fun _ => a4, a6, fun a ha => h6 a (by simp [ha])⟩]
        dsimp only
        rw [hpl, ← hln]
        refine (ih ..).2 ⟨fun t ht => ?_, p2, fun t ht x hx => ?_, q2, n2, fun a ha hs => ?_⟩
        · obtain ⟨c1, c2, c3, c4⟩ := h1 t (by simp [ht]); exact ⟨c1, p1 t ht, c3, c4⟩
        · rcases List.mem_append.1 hx with hx | hx
          · exact h3 t (by simp [ht]) x hx
          · rw [List.mem_singleton] at hx; subst hx; exact q1 t ht
        · rcases List.mem_append.1 hs with hs | hs
          · exact h6 a (by simp [ha]) hs
          · exact n3 a hs a ha rfl
/-- a catalog that may be -/
structure GoodC (n : Int) (xs : List Snap) : Prop where
  n0 : 0 ≤ n
  n1 : n ≤ 1099511627776
  few : xs.length ≤ 4
  each : ∀ s ∈ xs, nameB s.name = true ∧ 0 < s.id ∧ s.id ≤ n ∧ MapOk s
  ids : xs.Pairwise fun a b => a.id < b.id
  names : xs.Pairwise fun a b => a.name ≠ b.name
  apart : (gather xs).Nodup
theorem may_iff {n : Int} {xs : List Snap} : mayB n xs = true ↔ GoodC n xs := by
  unfold mayB
  by_cases hc : n < 0 ∨ 1099511627776 < n ∨ 4 < xs.length
  · rw [if_pos hc]
    refine ⟨(fun h => by cases h), fun h => ?_⟩
    have := h.n0; have := h.n1; have := h.few
    omega
  · rw [if_neg hc]
    have key := mayOut_iff n xs [] 0 []
    simp only [List.nil_append, List.length_nil] at key
    rw [key]
    exact ⟨fun ⟨h1, h2, _, h4, h5, _⟩ => ⟨by omega, by omega, by omega, h1, h2, h4, h5⟩, fun h => ⟨h.each, h.ids, (fun _ _ x hx => by cases hx), h.names, h.apart, (fun _ _ hx => by cases hx)⟩⟩
theorem GoodC.sides {n : Int} {xs : List Snap} (h : GoodC n xs) : ∀ s ∈ xs, s.side := fun s hs a ha => by
  rcases (h.each s hs).2.2.2.2.1 a ha with h | h
  · exact .inl h
  · exact .inr ⟨h.1, h.2.1⟩

/-! ### copies leave it so -/
/-- as before, but for its map and its being Invalid -/
structure Like (s t : Snap) : Prop where
  name : t.name = s.name
  id : t.id = s.id
  len : t.map.length = s.map.length
theorem mem_copies {xs : List Snap} {a : Int} : a ∈ copiesP xs ↔ a ∈ gather xs := List.mem_mergeSort
theorem gather_split {xs : List Snap} {k : Nat} {s : Snap} (h : xs[k]? = some s) : gather xs = gather (xs.take k) ++ (not0 s.map ++ gather (xs.drop (k + 1))) ∧ ∀ t, gather (xs.set k t) = gather (xs.take k) ++ (not0 t.map ++ gather (xs.drop (k + 1))) := by
  have hk := (List.getElem?_eq_some_iff.1 h).1
  constructor
  · have : xs = xs.take k ++ s :: xs.drop (k + 1) := by rw [← drop_cons h, List.take_append_drop]
    conv => lhs; rw [this]
    unfold gather; rw [List.flatMap_append, List.flatMap_cons]
  · intro t
    rw [List.set_eq_take_append_cons_drop, if_pos hk]
    unfold gather; rw [List.flatMap_append, List.flatMap_cons]
theorem pairwise_set {α : Type} {R : α → α → Prop} {l : List α} {k : Nat} {s t : α} (h : l.Pairwise R) (hs : l[k]? = some s) (h1 : ∀ x, R x s → R x t) (h2 : ∀ x, R s x → R t x) : (l.set k t).Pairwise R := by
  have hk := (List.getElem?_eq_some_iff.1 hs).1
  have e : l = l.take k ++ s :: l.drop (k + 1) := by rw [← drop_cons hs, List.take_append_drop]
  rw [e, List.pairwise_append, List.pairwise_cons] at h
  rw [List.set_eq_take_append_cons_drop, if_pos hk, List.pairwise_append, List.pairwise_cons]
  exact ⟨h.1, ⟨fun x hx => h2 x (h.2.1.1 x hx), h.2.1.2⟩, fun a ha b hb => (List.mem_cons.1 hb).elim (fun e => e ▸ h1 a (h.2.2 a ha s (by simp))) fun hb => h.2.2 a ha b (by simp [hb])⟩
theorem GoodC.set {n : Int} {xs : List Snap} (h : GoodC n xs) {k : Nat} {s t : Snap} (hs : xs[k]? = some s) (hl : Like s t) (hm : MapOk t) (hg : (gather (xs.set k t)).Nodup) : GoodC n (xs.set k t) := by
  refine ⟨h.n0, h.n1, by rw [List.length_set]; exact h.few, fun u hu => ?_, pairwise_set h.ids hs (fun x hx => by rw [hl.id]; exact hx) (fun x hx => by rw [hl.id]; exact hx),
    pairwise_set h.names hs (fun x hx => by rw [hl.name]; exact hx) (fun x hx => by rw [hl.name]; exact hx), hg⟩
  rcases List.mem_or_eq_of_mem_set hu with hu | rfl
  · exact h.each u hu
  · obtain ⟨a1, a2, a3, _⟩ := h.each s (List.mem_of_getElem? hs)
    exact ⟨by rw [hl.name]; exact a1, by rw [hl.id]; exact a2, by rw [hl.id]; exact a3, hm⟩
theorem lose_ok (s : Snap) : MapOk (lose s) ∧ not0 (lose s).map = [] := by
  have h0 : not0 (lose s).map = [] := by
    unfold not0 lose; rw [List.filter_eq_nil_iff]
    intro a ha; rw [List.eq_of_mem_replicate ha]; simp
  refine ⟨⟨fun x hx => ?_, fun a ha => .inl (List.eq_of_mem_replicate ha), by rw [h0]; exact List.nodup_nil⟩, h0⟩
  exact List.eq_of_mem_replicate (List.mem_of_mem_head? hx)
theorem GoodC.lose {n : Int} {xs : List Snap} (h : GoodC n xs) {k : Nat} {s : Snap} (hs : xs[k]? = some s) (h32 : s.map.length = 32) : GoodC n (xs.set k (lose s)) := by
  refine h.set hs ⟨rfl, rfl, by rw [h32]; exact List.length_replicate⟩ (lose_ok s).1 ?_
  obtain ⟨e1, e2⟩ := gather_split hs
  have hn := h.apart
  rw [e1] at hn
  rw [e2, (lose_ok s).2, List.nil_append]
  obtain ⟨n1, n2, n3⟩ := List.nodup_append.1 hn
  obtain ⟨n4, n5, _⟩ := List.nodup_append.1 n2
  exact List.nodup_append.2 ⟨n1, n5, fun a ha b hb => n3 a ha b (by simp [hb])⟩
theorem not0_set : ∀ {m : List Int} {j : Nat} {a : Int}, m[j]? = some 0 → a ≠ 0 → (not0 (m.set j a)).Perm (a :: not0 m) := by
  intro m
  induction m with
  | nil => intro j a h; cases h
  | cons y m ih =>
    intro j a h ha
    cases j with
    | zero =>
      have : y = 0 := by simpa using h
      subst this
      simp [not0, ha]
    | succ j =>
      have h : m[j]? = some 0 := by simpa using h
      have := ih h ha
      rw [List.set_cons_succ]
      by_cases hy : y = 0
      · have e1 : not0 (y :: m.set j a) = not0 (m.set j a) := by simp [not0, hy]
        have e2 : not0 (y :: m) = not0 m := by simp [not0, hy]
        rw [e1, e2]; exact this
      · have e1 : not0 (y :: m.set j a) = y :: not0 (m.set j a) := by simp [not0, hy]
        have e2 : not0 (y :: m) = y :: not0 m := by simp [not0, hy]
        rw [e1, e2]; exact (this.cons y).trans (List.Perm.swap _ _ _)
theorem GoodC.give {n : Int} {xs : List Snap} (h : GoodC n xs) {k : Nat} {s : Snap} (hs : xs[k]? = some s) {j : Nat} (hj0 : 0 < j) (hj : s.map[j]? = some 0) (hinv : s.inv = false) {a : Int} (h1 : 32 ≤ a) (h2 : a < 96) (h3 : a ∉ gather xs) : GoodC n (xs.set k (give s (j : Nat) a)) := by
  obtain ⟨e1, e2⟩ := gather_split hs
  obtain ⟨_, _, _, m1, m2, m3⟩ := h.each s (List.mem_of_getElem? hs)
  have hp := not0_set (a := a) hj (by omega)
  have em : (Go.Pl.give s (j : Nat) a).map = s.map.set j a := rfl
  have hgp : (gather (xs.set k (Go.Pl.give s (j : Nat) a))).Perm (a :: gather xs) := by
    rw [e1, e2, em]
    exact ((hp.append_right _).append_left _).trans List.perm_middle
  refine h.set hs ⟨rfl, rfl, by rw [em, List.length_set]⟩ ⟨fun x hx => ?_, fun b hb => ?_, ?_⟩ (hgp.nodup_iff.2 (List.nodup_cons.2 ⟨h3, h.apart⟩))
  · rw [em] at hx
    refine m1 x ?_
    rw [← hx]
    cases s.map with
    | nil => rfl
    | cons y m => cases j with
      | zero => omega
      | succ j => rfl
  · rw [em] at hb
    rcases List.mem_or_eq_of_mem_set hb with hb | rfl
    · rcases m2 b hb with h | h
      · exact .inl h
      · exact .inr h
    · exact .inr ⟨h1, h2, hinv⟩
  · rw [em]
    refine hp.nodup_iff.2 (List.nodup_cons.2 ⟨fun hm => h3 ?_, m3⟩)
    rw [e1]; simp [hm]
theorem takeAll_good {n : Int} : ∀ {nos : List Int} {xs : List Snap} {k : Nat} {s : Snap}, GoodC n xs → xs[k]? = some s → s.map.length = 32 → (nos ≠ [] → s.inv = false) → (∀ no ∈ nos, 0 < no ∧ no < 32 ∧ s.at no = 0) → nos.Nodup → GoodC n (takeAll xs k nos) := by
  intro nos
  induction nos with
  | nil => intro xs k s h _ _ _ _ _; exact h
  | cons no nos ih =>
    intro xs k s h hs h32 hinv hn hd
    have hi := hinv (by simp)
    obtain ⟨d1, d2⟩ := List.nodup_cons.1 hd
    obtain ⟨a1, a2, a3⟩ := hn no (by simp)
    obtain ⟨j, rfl⟩ : ∃ j : Nat, no = j := ⟨no.toNat, by omega⟩
    obtain ⟨x, hx⟩ := nth (l := s.map) (i := j) (by omega)
    have hx0 := Snap.at_some hx
    rw [a3] at hx0; subst hx0
    rw [takeAll]
    split
    · rw [modify_at hs]; exact h.lose hs h32
    · rename_i a ha
      obtain ⟨t1, t2, t3⟩ := takeP_side ha
      rw [mem_copies] at t3
      rw [modify_at hs]
      have hk := (List.getElem?_eq_some_iff.1 hs).1
      refine ih (s := Go.Pl.give s (j : Nat) a) (h.give hs (by omega) hx hi t1 t2 t3) (by rw [List.getElem?_set_self hk]) (by show (s.map.set _ a).length = 32; rw [List.length_set]; exact h32) (fun _ => hi) (fun no hno => ?_) d2
      obtain ⟨b1, b2, b3⟩ := hn no (by simp [hno])
      refine ⟨b1, b2, ?_⟩
      unfold Snap.at Go.Pl.give at *
      rw [List.getD_eq_getElem?_getD] at b3 ⊢
      rw [List.getElem?_set_ne (fun e => d1 (by have : no = (j : Int) := by omega
                                                rwa [this] at hno))]
      exact b3
theorem needsB_true {Q : Pages} {s : Snap} {no : Int} (h : needsB Q s no = true) : s.inv = false ∧ s.at no = 0 ∧ (no = 1 ∨ hasB (Q (viewNo s 1)) no = true) := by
  unfold needsB at h
  split at h
  · cases h
  · rename_i hc
    refine ⟨by cases hi : s.inv with | false => rfl | true => exact (hc (.inl hi)).elim, Decidable.byContradiction fun h0 => hc (.inr h0), ?_⟩
    split at h
    · rename_i h1; exact .inl h1
    · exact .inr h
theorem needsB_range {Q : Pages} {s : Snap} {no : Int} (h : needsB Q s no = true) : 0 < no ∧ no < 32 := by
  rcases (needsB_true h).2.2 with h | h
  · omega
  · unfold hasB at h
    rw [Bool.and_eq_true] at h
    have h1 : mayUse no := of_decide_eq_true h.1
    unfold mayUse at h1
    omega
theorem copiesC_good {n : Int} {Q : Pages} {xs : List Snap} {k : Nat} {nos : List Int} (h : GoodC n xs) (h32 : ∀ s ∈ xs, s.map.length = 32) (hd : nos.Nodup) : GoodC n (copiesC Q xs k nos) := by
  unfold copiesC
  split
  · exact h
  · rename_i s hs
    refine takeAll_good h hs (h32 s (List.mem_of_getElem? hs)) (fun hne => ?_) (fun no hno => ?_) (List.Nodup.sublist List.filter_sublist hd)
    · obtain ⟨no, hno⟩ := List.exists_mem_of_ne_nil _ hne
      exact (needsB_true (List.mem_filter.1 hno).2).1
    · have := (List.mem_filter.1 hno).2
      exact ⟨(needsB_range this).1, (needsB_range this).2, (needsB_true this).2.1⟩
/-! ### snapshot by snapshot -/
theorem Like.refl (s : Snap) : Like s s := ⟨rfl, rfl, rfl⟩
theorem Like.trans {s t u : Snap} (h : Like s t) (h' : Like t u) : Like s u := ⟨h'.name.trans h.name, h'.id.trans h.id, h'.len.trans h.len⟩
/-- two lists of snapshots, alike one by one -/
def Likes (xs ys : List Snap) : Prop := xs.length = ys.length ∧ ∀ (k : Nat) (s t : Snap), xs[k]? = some s → ys[k]? = some t → Like s t
theorem Likes.refl (xs : List Snap) : Likes xs xs := ⟨rfl, fun k s t h h' => by rw [h] at h'; cases h'; exact .refl s⟩
theorem Likes.trans {xs ys zs : List Snap} (h : Likes xs ys) (h' : Likes ys zs) : Likes xs zs := ⟨h.1.trans h'.1, fun k s u hs hu => by
  have hk := (List.getElem?_eq_some_iff.1 hs).1
  obtain ⟨t, ht⟩ := nth (l := ys) (i := k) (by rw [← h.1]; exact hk)
  exact (h.2 k s t hs ht).trans (h'.2 k t u ht hu)⟩
theorem Likes.set {xs : List Snap} {k : Nat} {s t : Snap} (hs : xs[k]? = some s) (h : Like s t) : Likes xs (xs.set k t) := ⟨by rw [List.length_set], fun j a b ha hb => by
  by_cases e : k = j
  · subst e
    rw [List.getElem?_set_self (List.getElem?_eq_some_iff.1 hs).1] at hb
    rw [hs] at ha; cases ha; cases hb; exact h
  · rw [List.getElem?_set_ne e, ha] at hb; cases hb; exact .refl a⟩
theorem takeAll_likes : ∀ {nos : List Int} {xs : List Snap} {k : Nat}, (∀ s ∈ xs, s.map.length = 32) → Likes xs (takeAll xs k nos) := by
  intro nos
  induction nos with
  | nil => intro xs k _; exact .refl xs
  | cons no nos ih =>
    intro xs k h32
    rw [takeAll]
    cases hs : xs[k]? with
    | none =>
      have hm : ∀ f : Snap → Snap, xs.modify k f = xs := fun f => by
        apply List.ext_getElem?
        intro j
        rw [List.getElem?_modify]
        by_cases e : k = j
        · subst e; rw [hs]; rfl
        · simp [e]
      split
      · rw [hm]; exact .refl xs
      · rw [hm]; exact ih h32
    | some s =>
      have hl : Like s (lose s) := ⟨rfl, rfl, by rw [h32 s (List.mem_of_getElem? hs)]; exact List.length_replicate⟩
      split
      · rw [modify_at hs]; exact .set hs hl
      · rename_i a _
        rw [modify_at hs]
        have hg : Like s (Go.Pl.give s no a) := ⟨rfl, rfl, List.length_set⟩
        refine (Likes.set hs hg).trans (ih fun t ht => ?_)
        rcases List.mem_or_eq_of_mem_set ht with ht | rfl
        · exact h32 t ht
        · rw [hg.len]; exact h32 s (List.mem_of_getElem? hs)
theorem copiesC_likes {Q : Pages} {xs : List Snap} {k : Nat} {nos : List Int} (h32 : ∀ s ∈ xs, s.map.length = 32) : Likes xs (copiesC Q xs k nos) := by
  unfold copiesC; split
  · exact .refl xs
  · exact takeAll_likes h32
theorem Likes.len32 {xs ys : List Snap} (h : Likes xs ys) (h32 : ∀ s ∈ xs, s.map.length = 32) : ∀ s ∈ ys, s.map.length = 32 := fun t ht => by
  obtain ⟨k, hk⟩ := List.getElem?_of_mem ht
  obtain ⟨s, hs⟩ := nth (l := xs) (i := k) (by rw [h.1]; exact (List.getElem?_eq_some_iff.1 hk).1)
  rw [(h.2 k s t hs hk).len]; exact h32 s (List.mem_of_getElem? hs)
theorem nosOf_nodup (c : Chg) : (nosOf c).Nodup := by
  refine List.Nodup.sublist List.filter_sublist ?_
  unfold List.Nodup
  rw [List.pairwise_map]
  exact List.nodup_range.imp fun h e => h (Int.ofNat.inj e)
/-- as far as the first k -/
theorem expandTo {n : Int} {Q : Pages} {but : Int} {nos : List Int} {xs : List Snap} (h : GoodC n xs) (h32 : ∀ s ∈ xs, s.map.length = 32) (hd : nos.Nodup) (k : Nat) :
    GoodC n ((List.range k).foldl (stepS Q but nos) xs) ∧ Likes xs ((List.range k).foldl (stepS Q but nos) xs) := by
  induction k with
  | zero => exact ⟨h, .refl xs⟩
  | succ k ih =>
    rw [fold_succ]
    obtain ⟨i1, i2⟩ := ih
    generalize (List.range k).foldl (stepS Q but nos) xs = ys at i1 i2 ⊢
    have h32' := i2.len32 h32
    unfold stepS
    split
    · exact ⟨i1, i2⟩
    · split
      · exact ⟨i1, i2⟩
      · exact ⟨copiesC_good i1 h32' hd, i2.trans (copiesC_likes h32')⟩
theorem expandS_good {n : Int} {Q : Pages} {but : Int} {nos : List Int} {xs : List Snap} (h : GoodC n xs) (h32 : ∀ s ∈ xs, s.map.length = 32) (hd : nos.Nodup) : GoodC n (expandS Q but nos xs) ∧ Likes xs (expandS Q but nos xs) := expandTo h h32 hd _
theorem expandS_found {n : Int} {Q : Pages} {but : Int} {nos : List Int} {xs was : List Snap} (h : GoodC n xs) (h32 : ∀ s ∈ xs, s.map.length = 32) (hd : nos.Nodup) (hw : ∀ s ∈ xs, s ∈ was) :
    ∀ s ∈ expandS Q but nos xs, ∃ (i : Nat) (w : Snap), findAt (named s.name) 0 was = (i : Int) ∧ was[i]? = some w := fun t ht => by
  have hl := (expandS_good (Q := Q) (but := but) h h32 hd).2
  obtain ⟨k, hk⟩ := List.getElem?_of_mem ht
  obtain ⟨s, hs⟩ := nth (l := xs) (i := k) (by rw [hl.1]; exact (List.getElem?_eq_some_iff.1 hk).1)
  have hn := (hl.2 k s t hs hk).name
  have h0 : 0 ≤ findAt (named t.name) 0 was := (findAt_nonneg ..).2 ⟨s, hw s (List.mem_of_getElem? hs), by unfold named; rw [hn]; simp⟩
  have h1 := (findAt_lt (named t.name) was 0).1
  obtain ⟨w, hw⟩ := nth (l := was) (i := (findAt (named t.name) 0 was).toNat) (by omega)
  exact ⟨_, w, by omega, hw⟩
theorem GoodC.take {n : Int} {xs : List Snap} (h : GoodC n xs) (i : Nat) : GoodC n (xs.take i) := by
  refine ⟨h.n0, h.n1, by have := List.length_take_le i xs; have := h.few; rw [List.length_take]; omega, fun s hs => h.each s (List.mem_of_mem_take hs), h.ids.sublist (List.take_sublist i xs), h.names.sublist (List.take_sublist i xs), ?_⟩
  have e : gather xs = gather (xs.take i) ++ gather (xs.drop i) := by
    unfold gather; rw [← List.flatMap_append, List.take_append_drop]
  have := h.apart
  rw [e] at this
  exact (List.nodup_append.1 this).1

/-! ### images -/
theorem imgsOf_succ (c : Chg) (n : Nat) : imgsOf c (n + 1) = imgsOf c n ++ (match c (n : Nat) with | none => [] | some b => [((n : Int), b)]) := by
  unfold imgsOf
  rw [List.range_succ, List.map_append, List.filterMap_append]
  congr 1
  cases h : c (n : Nat) <;> simp [h]
theorem imgsOf_len (c : Chg) (n : Nat) : (imgsOf c n).length ≤ n := by
  induction n with
  | zero => exact Nat.le_refl _
  | succ n ih => rw [imgsOf_succ, List.length_append]; split <;> simp <;> omega
def ChgLen (c : Chg) : Prop := ∀ no b, c no = some b → b.length = 256
theorem ChgLen.put {c : Chg} (h : ChgLen c) (no : Int) {b : List UInt8} (hb : b.length = 256) : ChgLen (updO c no b) := fun k b' e => by
  unfold updO at e
  split at e
  · cases e; exact hb
  · exact h k b' e
theorem chgOf_len {l : List Img} (h : MayImgs l) : ChgLen (chgOf l) := by
  have key : ∀ (l : List Img) (c : Chg), ChgLen c → (∀ x ∈ l, x.2.length = 256) → ChgLen (l.foldl (fun c x => updO c x.1 x.2) c) := by
    intro l
    induction l with
    | nil => intro c h _; exact h
    | cons x l ih => intro c h hl; exact ih _ (h.put _ (hl x (by simp))) fun y hy => hl y (by simp [hy])
  exact key l _ (fun _ _ h => by cases h) fun x hx => (h.2.1 x hx).2
theorem backTo_len {Q : Pages} (hQ : ∀ no, mayPage no → (Q no).length = 256) {s : Snap} (hs : s.side) (n : Nat) : ChgLen (backTo Q s n) := by
  have key : ∀ (l : List Int) (c : Chg), ChgLen c → ChgLen (l.foldl (fun c no => if no = 0 ∨ s.at no = 0 ∨ Q (s.at no) = Q no then c else updO c no (Q (s.at no))) c) := by
    intro l
    induction l with
    | nil => intro c h; exact h
    | cons x l ih =>
      intro c h
      refine ih _ ?_
      dsimp only
      split
      · exact h
      · rename_i hc
        have := s.at_side hs x
        exact h.put _ (hQ _ (by unfold mayPage; omega))
  exact key _ _ fun _ _ h => by cases h
theorem backTo_succ (Q : Pages) (s : Snap) (n : Nat) : backTo Q s (n + 1) = if (n : Int) = 0 ∨ s.at (n : Nat) = 0 ∨ Q (s.at (n : Nat)) = Q (n : Nat) then backTo Q s n else updO (backTo Q s n) (n : Nat) (Q (s.at (n : Nat))) := by
  unfold backTo
  rw [List.range_succ, List.map_append, List.foldl_append]
  rfl
theorem encode_256 {n : Int} {xs : List Snap} (h35 : ∀ s ∈ xs, (encSnap s).length = 35) (h : mayB n xs = true) : (encode n xs).1.length = 256 := by
  unfold encode; rw [if_pos h]
  exact page_length (by have := catBytes_length h h35; omega)
theorem decode_35 {l : List UInt8} {n : Int} {xs : List Snap} (h : decodeS l = ((n, xs), 0)) : ∀ s ∈ xs, (encSnap s).length = 35 := by
  rcases decode_any l with h1 | ⟨m, s, h1, _, _, h2⟩
  · rw [h1] at h; cases h
  · rw [h1] at h; cases h; exact h2
theorem decode_good {l : List UInt8} {n : Int} {xs : List Snap} (h : decodeS l = ((n, xs), 0)) : GoodC n xs := by
  rcases decode_any l with h1 | ⟨m, s, h1, _, h3, h2⟩
  · rw [h1] at h; cases h
  · rw [h1] at h; cases h; exact may_iff.1 (enc_may h3)
theorem len35 {s : Snap} : (encSnap s).length = 35 ↔ s.map.length = 32 := by rw [len_snap]; omega
theorem expandM_len {Q : Pages} (hQ : ∀ no, mayPage no → (Q no).length = 256) {n : Int} {was xs : List Snap} (h35 : ∀ s ∈ xs, (encSnap s).length = 35) (h : mayB n xs = true) {c : Chg} (hc : ChgLen c) : ChgLen (expandM Q n was xs c) := by
  have key : ∀ (l : List (Int × Int)) (c : Chg), ChgLen c → (∀ p ∈ l, mayPage p.2) → ChgLen (laySides Q c l) := by
    intro l
    induction l with
    | nil => intro c h _; exact h
    | cons p l ih => intro c h hp; exact ih _ (h.put _ (hQ _ (hp p (by simp)))) fun q hq => hp q (by simp [hq])
  unfold expandM sealCat
  have h1 := key (sides was xs) c hc fun p hp => by
    unfold sides at hp
    obtain ⟨s, _, hp⟩ := List.mem_flatMap.1 hp
    obtain ⟨k, hk, rfl⟩ := List.mem_map.1 (List.mem_filter.1 hp).1
    rw [List.mem_range] at hk
    unfold mayPage; dsimp only; omega
  split
  · exact h1
  · exact h1.put _ (encode_256 h35 h)
end Go.Pl
end

section
namespace Go.Pl
open Go Go.Sx

/-- a slice in a book: none (a page of noughts), or a page -/
def Slot (hs : List Chunk) (v : Value) (bs : List UInt8) : Prop := (v = .slice none 0 0 ∧ bs = noughts 256) ∨ (∃ a n c, v = .slice (some a) n c ∧ Row encB 1 hs v bs ∧ bs.length = 256)
theorem Slot.mono {hs hs' : List Chunk} {v : Value} {bs : List UInt8} (h : Slot hs v bs) (hh : ∀ b o, Has hs b o → Has hs' b o) : Slot hs' v bs := by
  rcases h with h | ⟨a, n, c, h1, h2, h3⟩
  · exact .inl h
  · exact .inr ⟨a, n, c, h1, h2.mono hh, h3⟩
theorem Slot.len {hs : List Chunk} {v : Value} {bs : List UInt8} (h : Slot hs v bs) : bs.length = 256 := by
  rcases h with ⟨_, h⟩ | ⟨_, _, _, _, _, h⟩
  · rw [h]; exact noughts_length 256
  · exact h
theorem Slot.oneC {hs : List Chunk} {v : Value} {bs : List UInt8} (h : Slot hs v bs) : oneC v = true := by
  rcases h with ⟨h, _⟩ | ⟨_, _, _, h, _, _⟩ <;> rw [h] <;> rfl
theorem Slot.of_row {hs : List Chunk} {v : Value} {bs : List UInt8} (h : Row encB 1 hs v bs) (hl : bs.length = 256) : Slot hs v bs := by
  obtain ⟨a, c, e⟩ := h.len
  cases a with
  | none => subst e; rw [h.of_none] at hl; cases hl
  | some a => exact .inr ⟨a, _, c, e, h, hl⟩
theorem Slot.slice {hs : List Chunk} {v : Value} {bs : List UInt8} (h : Slot hs v bs) : ∃ p n c, v = .slice p n c ∧ (p.isNone = true → bs = noughts 256) ∧ (p.isNone = false → Row encB 1 hs v bs) := by
  rcases h with ⟨rfl, h⟩ | ⟨a, n, c, rfl, h, _⟩
  · exact ⟨_, _, _, rfl, fun _ => h, fun h => by cases h⟩
  · exact ⟨_, _, _, rfl, fun h => (by cases h), fun _ => h⟩
structure Slots (hs : List Chunk) (vs : List Value) (Q : Pages) : Prop where
  len : vs.length = 96
  at_ : ∀ k : Nat, k < 96 → ∃ v, vs[k]? = some v ∧ Slot hs v (Q (k : Nat))
theorem Slots.mono {hs hs' : List Chunk} {vs : List Value} {Q : Pages} (h : Slots hs vs Q) (hh : ∀ b o, Has hs b o → Has hs' b o) : Slots hs' vs Q :=
  ⟨h.len, fun k hk => by obtain ⟨v, h1, h2⟩ := h.at_ k hk; exact ⟨v, h1, h2.mono hh⟩⟩
theorem Slots.zero (hs : List Chunk) : Slots hs (List.replicate 96 (.slice none 0 0)) (fun _ => noughts 256) :=
  ⟨by simp, fun k hk => ⟨.slice none 0 0, by rw [List.getElem?_replicate, if_pos hk], .inl ⟨rfl, rfl⟩⟩⟩
theorem Slots.put {hs : List Chunk} {vs : List Value} {Q : Pages} (h : Slots hs vs Q) {k : Nat} (hk : k < 96) {v : Value} {bs : List UInt8} (hv : Slot hs v bs) : Slots hs (vs.set k v) (upd Q (k : Nat) bs) := by
  refine ⟨by rw [List.length_set]; exact h.len, fun j hj => ?_⟩
  by_cases e : k = j
  · subst e; exact ⟨v, List.getElem?_set_self (by rw [h.len]; exact hk), by unfold upd; rw [if_pos rfl]; exact hv⟩
  · obtain ⟨w, h1, h2⟩ := h.at_ j hj
    exact ⟨w, by rw [List.getElem?_set_ne e]; exact h1, by unfold upd; rw [if_neg (by omega)]; exact h2⟩
theorem Slots.long {hs : List Chunk} {vs : List Value} {Q : Pages} (h : Slots hs vs Q) : ∀ no, mayPage no → (Q no).length = 256 := fun no hn => by
  unfold mayPage at hn
  obtain ⟨v, _, h2⟩ := h.at_ no.toNat (by omega)
  rw [show ((no.toNat : Nat) : Int) = no by omega] at h2
  exact h2.len
/-- the struct of a book: its slices, none that can't be read -/
def bkCells (vs : List Value) : List Value := vs ++ [.int .i64 0]
theorem bk_at {vs : List Value} (h : vs.length = 96) {k : Nat} {v : Value} (hv : vs[k]? = some v) {o : Nat} (ho : o = k) : (bkCells vs)[o]? = some v := by
  subst ho; unfold bkCells
  rw [List.getElem?_append_left (List.getElem?_eq_some_iff.1 hv).1]; exact hv
theorem bk_bad {vs : List Value} (h : vs.length = 96) : (bkCells vs)[96]? = some (.int .i64 0) := by
  unfold bkCells; rw [List.getElem?_append_right (by omega), h]; rfl
theorem bk_set {vs : List Value} (h : vs.length = 96) {k : Nat} (hk : k < 96) (v : Value) {o : Nat} (ho : o = k) : splice (bkCells vs) o [v] = bkCells (vs.set k v) := by
  rw [splice_at (k := k) (by unfold bkCells; simp; omega) v ho]
  unfold bkCells; rw [List.set_append_left _ _ (by omega)]
theorem bk_len {vs : List Value} (h : vs.length = 96) : (bkCells vs).length = 97 := by unfold bkCells; simp [h]
theorem bkCells_zero : bkCells (List.replicate 96 (.slice none 0 0)) = List.replicate 96 (.slice none 0 0) ++ [.int .i64 0] := rfl
/-- a book at b: its pages are Q -/
structure BkAt (tB : Nat) (b : Nat) (Q : Pages) (H : Chunk) : Prop where
  is : ∃ vs G, Slots [G] vs Q ∧ H = [(b, blk (bkCells vs) tB (0, 0))] ++ G
theorem BkAt.long {tB b : Nat} {Q : Pages} {H : Chunk} (h : BkAt tB b Q H) : ∀ no, mayPage no → (Q no).length = 256 := by
  obtain ⟨vs, G, hs, _⟩ := h.is; exact hs.long
theorem BkAt.eq {tB b : Nat} {Q Q' : Pages} {H : Chunk} (h : BkAt tB b Q H) (e : EqP Q Q') : BkAt tB b Q' H := by
  obtain ⟨vs, G, hs, hH⟩ := h.is
  refine ⟨vs, G, ⟨hs.len, fun k hk => ?_⟩, hH⟩
  obtain ⟨v, h1, h2⟩ := hs.at_ k hk
  exact ⟨v, h1, by rw [← e (k : Nat) ⟨by omega, by omega⟩]; exact h2⟩
theorem has_left {A B : Chunk} {b : Nat} {o : Obj} (h : Has [A] b o) : Has [A ++ B] b o := Has.of_mem (by have := h.mem; simp only [List.flatten_cons, List.flatten_nil, List.append_nil, List.mem_append] at this ⊢; exact .inl this)
theorem has_right {A B : Chunk} {b : Nat} {o : Obj} (h : Has [B] b o) : Has [A ++ B] b o := Has.of_mem (by have := h.mem; simp only [List.flatten_cons, List.flatten_nil, List.append_nil, List.mem_append] at this ⊢; exact .inr this)
/-- one page more, its slice by itself -/
theorem Slots.grow {G K : Chunk} {vs : List Value} {Q : Pages} (h : Slots [G] vs Q) {k : Nat} (hk : k < 96) {v : Value} {bs : List UInt8} {e : Nat} (ho : Own encB 1 e v bs K) (hl : bs.length = 256) : Slots [G ++ K] (vs.set k v) (upd Q (k : Nat) bs) :=
  (h.mono fun _ _ => has_left).put hk (Slot.of_row ((ho.row (hs := [])).mono fun _ _ => has_right) hl)
theorem BkAt.one {tB b : Nat} {vs : List Value} {Q : Pages} {G : Chunk} (h : Slots [G] vs Q) : BkAt tB b Q ([(b, blk (bkCells vs) tB (0, 0))] ++ G) := ⟨vs, G, h, rfl⟩
section
variable [Outer] {X : Cx} {k : Kont} {R : Reg} {hs : List Chunk} {ops : Array Oper} {l : List Oper} {d ty' : Nat} {pos : String} {after : Array Edge} {gd : Option (Nat × Bool)}
/-- b.P[no] = v -/
theorem _root_.Go.Sx.OT.bk_store {T : Tab} (hT : T.ok X.P) {t e' sz : Nat} {x y : Operand} {tB b no o : Nat} {v : Value} {Q : Pages} {H K : Chunk} {r r2 : List Chunk} {bs : List UInt8} {e : Nat} (ht : ty T t = some (.slice e' sz)) (hg : grd ops R gd = some true) (hx : ev R x = some (.pointer (some ⟨b, o, none⟩)))
    (hy : ev R y = some v) (hp : Pull hs H r) (hB : BkAt tB b Q H) (hp2 : Pull r K r2) (hO : Own encB 1 e v bs K) (hl : bs.length = 256) (ho : o = no) (hn : no < 96)
    (h : ∀ H', BkAt tB b (upd Q (no : Nat) bs) H' → (∀ x ∈ H.tail, x ∈ H'.tail) → OT X ops l k R (H' :: r2)) : OT X ops (⟨none, .store t x y, ty', pos, after, gd⟩ :: l) k R hs := by
  obtain ⟨vs, G, hS, rfl⟩ := hB.is
  subst ho
  obtain ⟨a, c, e⟩ := (hO.row (hs := [])).len
  subst e
  intro a' w ha hw
  have hw1 := (hw.pull hp)
  have hw2 : Mem (([(b, blk (bkCells vs) tB (0, 0))]) :: G :: K :: r2) w := by
    refine hw1.perm ?_
    have := hp2.perm
    simp only [List.flatten_cons, List.append_assoc, List.cons_append, List.nil_append]
    refine List.Perm.cons _ ?_
    exact List.Perm.append_left G this
  have hst : OT X ops (⟨none, .store t x y, ty', pos, after, gd⟩ :: l) k R (([(b, blk (bkCells vs) tB (0, 0))]) :: G :: K :: r2) := by
    refine OT.store (cs' := bkCells (vs.set o (.slice a bs.length c))) hT ht hg hx hy Pull.head rfl (by rw [bk_len hS.len]; show o + 1 ≤ 97; omega) rfl (.inl (Nat.le_refl _)) (bk_set hS.len hn _ rfl) ?_
    intro a2 w2 ha2 hm2
    refine h _ (BkAt.one (hS.grow hn hO hl)) (fun x hx => (List.mem_append_left K hx : x ∈ G ++ K)) a2 w2 ha2 (hm2.perm ?_)
    simp only [List.flatten_cons, List.append_assoc, List.cons_append, List.nil_append]
    exact List.Perm.refl _
  exact hst a' w ha hw2
end
theorem slots_ones {hs : List Chunk} {vs : List Value} {Q : Pages} (h : Slots hs vs Q) : ones vs = true := by
  unfold ones
  rw [List.all_eq_true]
  intro x hx
  obtain ⟨k, hk⟩ := List.getElem?_of_mem hx
  obtain ⟨v, h1, h2⟩ := h.at_ k (by have := (List.getElem?_eq_some_iff.1 hk).1; have := h.len; omega)
  rw [hk] at h1; cases h1
  exact h2.oneC
theorem has_tail {G H : Chunk} (ht : ∀ x ∈ G, x ∈ H.tail) {b : Nat} {o : Obj} (h : Has [G] b o) : Has [H] b o :=
  .here (List.mem_of_mem_tail (ht _ (by have := h.mem; simpa using this)))
end Go.Pl
end

section
namespace Go.Pl
open Go Go.Sx

/-- images of data pages alone -/
def DataImgs (l : List Img) : Prop := MayImgs l ∧ ∀ x ∈ l, 1 ≤ x.1 ∧ x.1 < 32
/-- pages with a catalog -/
structure CowSt (Q : Pages) (n : Int) (xs : List Snap) : Prop where
  long : ∀ no, mayPage no → (Q no).length = 256
  cat : decodeS (Q 0) = ((n, xs), 0)
theorem CowSt.good {Q : Pages} {n : Int} {xs : List Snap} (h : CowSt Q n xs) : GoodC n xs := decode_good h.cat
theorem CowSt.h35 {Q : Pages} {n : Int} {xs : List Snap} (h : CowSt Q n xs) : ∀ s ∈ xs, (encSnap s).length = 35 := decode_35 h.cat
theorem CowSt.h32 {Q : Pages} {n : Int} {xs : List Snap} (h : CowSt Q n xs) : ∀ s ∈ xs, s.map.length = 32 := fun s hs => map32 (h.h35 s hs)

/-! ### laid -/
theorem imgsOf_mem {c : Chg} {n : Nat} {x : Img} : x ∈ imgsOf c n ↔ ∃ k : Nat, k < n ∧ c (k : Nat) = some x.2 ∧ x.1 = k := by
  unfold imgsOf
  rw [List.mem_filterMap]
  constructor
  · rintro ⟨no, hno, h⟩
    obtain ⟨k, hk, rfl⟩ := List.mem_map.1 hno
    rw [List.mem_range] at hk
    cases hc : c (k : Nat) with
    | none => rw [hc] at h; cases h
    | some b => rw [hc] at h; cases h; exact ⟨k, hk, hc, rfl⟩
  · rintro ⟨k, hk, h1, h2⟩
    exact ⟨k, List.mem_map.2 ⟨k, List.mem_range.2 hk, rfl⟩, by rw [h1]; obtain ⟨a, b⟩ := x; dsimp only at h2; subst h2; rfl⟩
theorem lay_imgsOf (Q : Pages) (c : Chg) : ∀ (n : Nat) (k : Nat), lay Q (imgsOf c n) (k : Nat) = if k < n then (c (k : Nat)).getD (Q (k : Nat)) else Q (k : Nat) := by
  intro n
  induction n with
  | zero => intro k; rw [if_neg (by omega)]; rfl
  | succ n ih =>
    intro k
    rw [imgsOf_succ]
    cases hc : c (n : Nat) with
    | none =>
      rw [List.append_nil, ih]
      by_cases e : k = n
      · subst e; rw [if_neg (by omega), if_pos (by omega), hc]; rfl
      · by_cases h : k < n
        · rw [if_pos h, if_pos (by omega)]
        · rw [if_neg h, if_neg (by omega)]
    | some b =>
      rw [lay_snoc]
      unfold upd
      by_cases e : k = n
      · subst e; rw [if_pos rfl, if_pos (by omega), hc]; rfl
      · rw [if_neg (by omega), ih]
        by_cases h : k < n
        · rw [if_pos h, if_pos (by omega)]
        · rw [if_neg h, if_neg (by omega)]
theorem lay_all (Q : Pages) (c : Chg) {no : Int} (h : mayPage no) : lay Q (imgsOf c 96) no = (c no).getD (Q no) := by
  unfold mayPage at h
  have := lay_imgsOf Q c 96 no.toNat
  rw [show ((no.toNat : Nat) : Int) = no by omega, if_pos (by omega)] at this
  exact this
theorem imgsOf_may {c : Chg} (h : ChgLen c) : ∀ x ∈ imgsOf c 96, mayPage x.1 ∧ x.2.length = 256 := fun x hx => by
  obtain ⟨k, hk, h1, h2⟩ := imgsOf_mem.1 hx
  exact ⟨by unfold mayPage; omega, h _ _ h1⟩
theorem imgsOf_asc (c : Chg) (n : Nat) : (imgsOf c n).Pairwise fun x y => x.1 < y.1 := by
  induction n with
  | zero => exact List.Pairwise.nil
  | succ n ih =>
    rw [imgsOf_succ]
    split
    · rw [List.append_nil]; exact ih
    · rw [List.pairwise_append]
      refine ⟨ih, by simp, fun x hx y hy => ?_⟩
      rw [List.mem_singleton] at hy; subst hy
      obtain ⟨k, hk, _, h2⟩ := imgsOf_mem.1 hx
      dsimp only; omega
theorem chgOf_lay (Q : Pages) (l : List Img) (no : Int) : (chgOf l no).getD (Q no) = lay Q l no ∧ ((chgOf l no).isSome = true ↔ Touches l no) := by
  have key : ∀ (l : List Img) (c : Chg) (P : Pages), ((l.foldl (fun c x => updO c x.1 x.2) c) no).getD (Q no) = lay P l no ∨ ¬ ((c no).getD (Q no) = P no) := by
    intro l
    induction l with
    | nil => intro c P; by_cases h : (c no).getD (Q no) = P no; exact .inl h; exact .inr h
    | cons x l ih =>
      intro c P
      by_cases h : (c no).getD (Q no) = P no
      · left
        rcases ih (updO c x.1 x.2) (upd P x.1 x.2) with h1 | h1
        · exact h1
        · exfalso; apply h1; unfold updO upd; by_cases e : no = x.1
          · rw [if_pos e, if_pos e]; rfl
          · rw [if_neg e, if_neg e]; exact h
      · exact .inr h
  have key2 : ∀ (l : List Img) (c : Chg), ((l.foldl (fun c x => updO c x.1 x.2) c) no).isSome = true ↔ Touches l no ∨ (c no).isSome = true := by
    intro l
    induction l with
    | nil => intro c; constructor; exact .inr; rintro (⟨x, hx, _⟩ | h); cases hx; exact h
    | cons x l ih =>
      intro c
      rw [List.foldl_cons, ih]
      unfold Touches updO
      by_cases e : no = x.1
      · rw [if_pos e]; simp [e]
      · rw [if_neg e]; simp only [List.mem_cons, exists_eq_or_imp, fun h : x.1 = no => e h.symm, false_or, or_assoc]
        constructor
        · rintro (h | h)
          · exact .inr (.inl h)
          · exact .inr (.inr h)
        · rintro (h | h | h)
          · exact absurd h.symm e
          · exact .inl h
          · exact .inr h
  refine ⟨?_, ?_⟩
  · rcases key l (fun _ => none) Q with h | h
    · exact h
    · exact absurd rfl h
  · have := key2 l fun _ => none
    rw [show ((fun _ => none : Chg) no).isSome = false from rfl] at this
    exact this.trans ⟨fun h => h.resolve_right (by simp), .inl⟩
theorem nosOf_mem {c : Chg} {no : Int} : no ∈ nosOf c ↔ 0 ≤ no ∧ no < 32 ∧ (c no).isSome = true := by
  unfold nosOf
  rw [List.mem_filter]
  constructor
  · rintro ⟨h1, h2⟩
    obtain ⟨k, hk, rfl⟩ := List.mem_map.1 h1
    rw [List.mem_range] at hk
    exact ⟨by omega, by omega, h2⟩
  · rintro ⟨h1, h2, h3⟩
    exact ⟨List.mem_map.2 ⟨no.toNat, List.mem_range.2 (by omega), by omega⟩, h3⟩

/-! ### side pages that are given -/
theorem at_give {s : Snap} {j : Nat} (hj : j < s.map.length) (a no : Int) (h0 : 0 ≤ no) : (give s (j : Nat) a).at no = if no = j then a else s.at no := by
  unfold Snap.at give
  rw [List.getD_eq_getElem?_getD, List.getD_eq_getElem?_getD]
  show ((s.map.set j a)[no.toNat]?).getD 0 = _
  by_cases e : no = j
  · rw [if_pos e, show no.toNat = j by omega, List.getElem?_set_self hj]; rfl
  · rw [if_neg e, List.getElem?_set_ne (by omega)]
theorem at_neg (s : Snap) {no : Int} (h : no < 0) : s.at no = s.at 0 := by unfold Snap.at; rw [show no.toNat = (0 : Int).toNat by omega]
theorem at_lose (s : Snap) (no : Int) : (lose s).at no = 0 := by
  unfold Snap.at lose
  rw [List.getD_eq_getElem?_getD, List.getElem?_replicate]
  split <;> rfl
theorem modify_self {α : Type} {l : List α} {k : Nat} {f : α → α} {x : α} (h : l[k]? = some x) : (l.modify k f)[k]? = some (f x) := by
  rw [modify_at h, List.getElem?_set_self (List.getElem?_eq_some_iff.1 h).1]
theorem modify_ne {α : Type} {l : List α} {k j : Nat} {f : α → α} (h : k ≠ j) : (l.modify k f)[j]? = l[j]? := by
  rw [List.getElem?_modify]; simp [h]
/-- what takeAll does to the snapshot at k, and to the others -/
theorem takeAll_at : ∀ {nos : List Int} {xs : List Snap} {k : Nat} {s : Snap}, xs[k]? = some s → s.map.length = 32 → s.inv = false → (∀ no ∈ nos, 0 < no ∧ no < 32 ∧ s.at no = 0) → nos.Nodup →
    (∀ j, j ≠ k → (takeAll xs k nos)[j]? = xs[j]?) ∧ ∃ t, (takeAll xs k nos)[k]? = some t ∧
      ((t = lose s ∧ nos ≠ []) ∨ (t.inv = false ∧ t.name = s.name ∧ t.id = s.id ∧ t.map.length = 32 ∧ (∀ no, 0 ≤ no → no ∉ nos → t.at no = s.at no) ∧ ∀ no ∈ nos, t.at no ≠ 0 ∧ t.at no ∉ gather xs ∧ ∀ no' ∈ nos, no' ≠ no → t.at no' ≠ t.at no)) := by
  intro nos
  induction nos with
  | nil => intro xs k s hs h32 hi _ _; exact ⟨fun _ _ => rfl, s, hs, .inr ⟨hi, rfl, rfl, h32, fun _ _ _ => rfl, fun _ h => by cases h⟩⟩
  | cons no nos ih =>
    intro xs k s hs h32 hi hn hd
    obtain ⟨d1, d2⟩ := List.nodup_cons.1 hd
    obtain ⟨a1, a2, a3⟩ := hn no (by simp)
    obtain ⟨m, rfl⟩ : ∃ m : Nat, no = m := ⟨no.toNat, by omega⟩
    rw [takeAll]
    split
    · exact ⟨fun j hj => modify_ne (Ne.symm hj), lose s, modify_self hs, .inl ⟨rfl, by simp⟩⟩
    · rename_i a ha
      obtain ⟨t1, t2, t3⟩ := takeP_side ha
      rw [mem_copies] at t3
      have hm : m < s.map.length := by omega
      obtain ⟨i1, t, i2, i3⟩ := ih (xs := xs.modify k fun s => give s (m : Nat) a) (k := k) (s := give s (m : Nat) a) (modify_self hs) (by show (s.map.set m a).length = 32; rw [List.length_set]; exact h32) hi (fun no hno => by
        obtain ⟨b1, b2, b3⟩ := hn no (by simp [hno])
        refine ⟨b1, b2, ?_⟩
        rw [at_give hm _ _ (by omega), if_neg (fun e => d1 (by rw [← e]; exact hno))]
        exact b3) d2
      refine ⟨fun j hj => by rw [i1 j hj]; exact modify_ne (Ne.symm hj), t, i2, ?_⟩
      rcases i3 with ⟨e, _⟩ | ⟨j1, j2, j3, j4, j5, j6⟩
      · exact .inl ⟨by rw [e]; rfl, by simp⟩
      · refine .inr ⟨j1, j2, j3, j4, fun no h0 hno => ?_, fun no hno => ?_⟩
        · rw [j5 no h0 (fun h => hno (by simp [h])), at_give hm _ _ h0, if_neg (fun e => hno (by simp [e]))]
        · have hta : t.at (m : Nat) = a := by rw [j5 _ (by omega) d1, at_give hm _ _ (by omega), if_pos rfl]
          have hga : ∀ x, x ∈ gather xs ∨ x = a → x ∈ gather (xs.modify k fun s => give s (m : Nat) a) := by
            obtain ⟨e1, e2⟩ := gather_split hs
            obtain ⟨y, hy⟩ := nth (l := s.map) (i := m) hm
            have hy0 := Snap.at_some hy
            rw [a3] at hy0; subst hy0
            have hp := not0_set (a := a) hy (by omega)
            intro x hx
            rw [modify_at hs, e2]
            have : not0 (give s (m : Nat) a).map = not0 (s.map.set m a) := rfl
            rw [this]
            rw [e1] at hx
            simp only [List.mem_append] at hx ⊢
            rcases hx with (hx | hx | hx) | hx
            · exact .inl hx
            · exact .inr (.inl (hp.mem_iff.2 (by simp [hx])))
            · exact .inr (.inr hx)
            · exact .inr (.inl (hp.mem_iff.2 (by simp [hx])))
          rcases List.mem_cons.1 hno with rfl | hno
          · refine ⟨by rw [hta]; omega, by rw [hta]; exact t3, fun no' hno' hne => ?_⟩
            rcases List.mem_cons.1 hno' with rfl | hno'
            · exact absurd rfl hne
            · intro e
              rw [hta] at e
              exact (j6 no' hno').2.1 (hga _ (.inr e))
          · obtain ⟨q1, q2, q3⟩ := j6 no hno
            refine ⟨q1, fun h => q2 (hga _ (.inl h)), fun no' hno' hne => ?_⟩
            rcases List.mem_cons.1 hno' with rfl | hno'
            · rw [hta]; intro e; exact q2 (hga _ (.inr e.symm))
            · exact q3 no' hno' hne
/-- what a snapshot has got of pages that are to be changed -/
structure Got (Q : Pages) (nos : List Int) (s t : Snap) : Prop where
  like : Like s t
  same : s.inv = true → t = s
  lost : t.inv = true → s.inv = false → t = lose s
  keep : t.inv = false → ∀ no, 0 ≤ no → (no ∉ nos ∨ needsB Q s no = false) → t.at no = s.at no
  got : t.inv = false → ∀ no ∈ nos, needsB Q s no = true → t.at no ≠ 0
theorem Got.inv {Q : Pages} {nos : List Int} {s t : Snap} (h : Got Q nos s t) (ht : t.inv = false) : s.inv = false := by
  cases hs : s.inv with
  | false => rfl
  | true => rw [h.same hs, hs] at ht; cases ht
theorem Got.old {Q : Pages} {nos : List Int} {s t : Snap} (h : Got Q nos s t) (ht : t.inv = false) {no : Int} (h0 : 0 ≤ no) (hs : s.at no ≠ 0) : t.at no = s.at no :=
  h.keep ht no h0 (.inr (by unfold needsB; rw [if_pos (.inr hs)]))
theorem copiesC_got {Q : Pages} {xs : List Snap} {k : Nat} {nos : List Int} {s : Snap} (hs : xs[k]? = some s) (h32 : s.map.length = 32) (hd : nos.Nodup) :
    (∀ j, j ≠ k → (copiesC Q xs k nos)[j]? = xs[j]?) ∧ ∃ t, (copiesC Q xs k nos)[k]? = some t ∧ Got Q nos s t := by
  have e : copiesC Q xs k nos = takeAll xs k (nos.filter (needsB Q s)) := by unfold copiesC; rw [hs]
  rw [e]
  cases hi : s.inv with
  | true =>
    have hn : nos.filter (needsB Q s) = [] := by
      rw [List.filter_eq_nil_iff]; intro no _; unfold needsB; rw [if_pos (.inl hi)]; simp
    rw [hn]
    exact ⟨fun _ _ => rfl, s, hs, .refl s, fun _ => rfl, fun _ h => (by rw [hi] at h; cases h), fun _ _ _ _ => rfl, fun h => (by rw [hi] at h; cases h)⟩
  | false =>
    obtain ⟨h1, t, h2, h3⟩ := takeAll_at (nos := nos.filter (needsB Q s)) hs h32 hi (fun no hno => by
      have := (List.mem_filter.1 hno).2
      exact ⟨(needsB_range this).1, (needsB_range this).2, (needsB_true this).2.1⟩) (List.Nodup.sublist List.filter_sublist hd)
    refine ⟨h1, t, h2, ?_⟩
    rcases h3 with ⟨rfl, _⟩ | ⟨a1, a2, a3, a4, a5, a6⟩
    · exact ⟨⟨rfl, rfl, by rw [h32]; exact List.length_replicate⟩, fun h => (by rw [hi] at h; cases h), fun _ _ => rfl, fun h => (by cases h), fun h => (by cases h)⟩
    · refine ⟨⟨a2, a3, by rw [a4, h32]⟩, fun h => (by rw [hi] at h; cases h), fun h => (by rw [a1] at h; cases h), fun _ no h0 h => a5 no h0 fun hm => ?_, fun _ no hno hb => (a6 no (List.mem_filter.2 ⟨hno, hb⟩)).1⟩
      obtain ⟨b1, b2⟩ := List.mem_filter.1 hm
      rcases h with h | h
      · exact h b1
      · rw [h] at b2; cases b2
/-- snapshot by snapshot -/
theorem expand_got {n : Int} {Q : Pages} {but : Int} {nos : List Int} {xs : List Snap} (hg : GoodC n xs) (h32 : ∀ s ∈ xs, s.map.length = 32) (hd : nos.Nodup) {k : Nat} {s t : Snap} (hs : xs[k]? = some s) (ht : (expandS Q but nos xs)[k]? = some t) :
    if s.id = but then t = s else Got Q nos s t := by
  have key : ∀ m : Nat, ∀ (k : Nat) (s : Snap), xs[k]? = some s → ∃ t, ((List.range m).foldl (stepS Q but nos) xs)[k]? = some t ∧ if k < m then (if s.id = but then t = s else Got Q nos s t) else t = s := by
    intro m
    induction m with
    | zero => intro k s hs; exact ⟨s, hs, by rw [if_neg (by omega)]⟩
    | succ m ih =>
      intro k s hs
      obtain ⟨t, ht, hk⟩ := ih k s hs
      rw [fold_succ]
      generalize hy : (List.range m).foldl (stepS Q but nos) xs = ys at ht ⊢
      unfold stepS
      cases hm : ys[m]? with
      | none =>
        refine ⟨t, ht, ?_⟩
        by_cases hkm : k < m
        · rw [if_pos hkm] at hk; rw [if_pos (by omega)]; exact hk
        · by_cases e : k = m
          · subst e; rw [hm] at ht; cases ht
          · rw [if_neg hkm] at hk; rw [if_neg (by omega)]; exact hk
      | some u =>
        dsimp only
        by_cases e : k = m
        · subst e
          rw [if_neg (by omega)] at hk
          subst hk
          rw [hm] at ht; cases ht
          have hk1 : k < k + 1 := by omega
          by_cases hb : t.id = but
          · rw [if_pos hb]; exact ⟨t, hm, by rw [if_pos hk1, if_pos hb]⟩
          · rw [if_neg hb]
            obtain ⟨_, t', h2, h3⟩ := copiesC_got (Q := Q) (nos := nos) hm (h32 _ (List.mem_of_getElem? hs)) hd
            exact ⟨t', h2, by rw [if_pos hk1, if_neg hb]; exact h3⟩
        · have hu : u.map.length = 32 := by
            have hl := (expandTo (Q := Q) (but := but) hg h32 hd m).2
            rw [hy] at hl
            exact hl.len32 h32 u (List.mem_of_getElem? hm)
          have hstep : (if u.id = but then ys else copiesC Q ys m nos)[k]? = some t := by
            split
            · exact ht
            · rw [(copiesC_got hm hu hd).1 k e]; exact ht
          refine ⟨t, hstep, ?_⟩
          by_cases hkm : k < m
          · rw [if_pos hkm] at hk; rw [if_pos (by omega)]; exact hk
          · rw [if_neg hkm] at hk; rw [if_neg (by omega)]; exact hk
  obtain ⟨t', h1, h2⟩ := key xs.length k s hs
  have : (expandS Q but nos xs)[k]? = some t' := h1
  rw [ht] at this; cases this
  rw [if_pos (List.getElem?_eq_some_iff.1 hs).1] at h2
  exact h2
theorem expand_at {n : Int} {Q : Pages} {but : Int} {nos : List Int} {xs : List Snap} (hg : GoodC n xs) (h32 : ∀ s ∈ xs, s.map.length = 32) (hd : nos.Nodup) {k : Nat} {t : Snap} (ht : (expandS Q but nos xs)[k]? = some t) :
    ∃ s, xs[k]? = some s ∧ if s.id = but then t = s else Got Q nos s t := by
  have hl := (expandS_good (Q := Q) (but := but) hg h32 hd).2
  obtain ⟨s, hs⟩ := nth (l := xs) (i := k) (by rw [hl.1]; exact (List.getElem?_eq_some_iff.1 ht).1)
  exact ⟨s, hs, expand_got hg h32 hd hs ht⟩

/-! ### the pages behind it -/
theorem gather_at {xs : List Snap} {k : Nat} {s : Snap} (hs : xs[k]? = some s) {no : Int} (h : s.at no ≠ 0) : s.at no ∈ gather xs := by
  refine List.mem_flatMap.2 ⟨s, List.mem_of_getElem? hs, mem_not0.2 ⟨?_, h⟩⟩
  unfold Snap.at at h ⊢
  rw [List.getD_eq_getElem?_getD] at h ⊢
  cases e : s.map[no.toNat]? with
  | none => rw [e] at h; exact absurd rfl h
  | some x => exact List.mem_of_getElem? e
theorem mem_gather {xs : List Snap} {a : Int} (h : a ∈ gather xs) : ∃ (k : Nat) (s : Snap) (j : Nat), xs[k]? = some s ∧ s.map[j]? = some a ∧ a ≠ 0 := by
  obtain ⟨s, hs, ha⟩ := List.mem_flatMap.1 h
  obtain ⟨h1, h2⟩ := mem_not0.1 ha
  obtain ⟨k, hk⟩ := List.getElem?_of_mem hs
  obtain ⟨j, hj⟩ := List.getElem?_of_mem h1
  exact ⟨k, s, j, hk, hj, h2⟩
theorem not0_apart : ∀ {m : List Int}, (not0 m).Nodup → ∀ {i j : Nat} {a : Int}, m[i]? = some a → m[j]? = some a → a ≠ 0 → i = j := by
  intro m
  induction m with
  | nil => intro _ i j a h; cases h
  | cons y m ih =>
    intro hn i j a hi hj ha
    have hmem : ∀ {k : Nat}, m[k]? = some a → a ∈ not0 m := fun h => mem_not0.2 ⟨List.mem_of_getElem? h, ha⟩
    by_cases hy : y = 0
    · have e : not0 (y :: m) = not0 m := by simp [not0, hy]
      rw [e] at hn
      match i, j, hi, hj with
      | 0, _, hi, _ => have : y = a := by simpa using hi
                       omega
      | _ + 1, 0, _, hj => have : y = a := by simpa using hj
                           omega
      | i + 1, j + 1, hi, hj => exact congrArg (· + 1) (ih hn (i := i) (j := j) (by simpa using hi) (by simpa using hj) ha)
    · have e : not0 (y :: m) = y :: not0 m := by simp [not0, hy]
      rw [e] at hn
      obtain ⟨h1, h2⟩ := List.nodup_cons.1 hn
      match i, j, hi, hj with
      | 0, 0, _, _ => rfl
      | 0, j + 1, hi, hj => have : y = a := by simpa using hi
                            subst this; exact absurd (hmem (by simpa using hj)) h1
      | i + 1, 0, hi, hj => have : y = a := by simpa using hj
                            subst this; exact absurd (hmem (by simpa using hi)) h1
      | i + 1, j + 1, hi, hj => exact congrArg (· + 1) (ih h2 (i := i) (j := j) (by simpa using hi) (by simpa using hj) ha)
/-- a number stands in one place alone -/
theorem gather_apart {xs : List Snap} (hn : (gather xs).Nodup) {i k p q : Nat} {s t : Snap} {a : Int} (hs : xs[i]? = some s) (ht : xs[k]? = some t) (hp : s.map[p]? = some a) (hq : t.map[q]? = some a) (ha : a ≠ 0) : i = k ∧ p = q := by
  have hik : i = k := by
    have key : ∀ {i k : Nat} {s t : Snap}, i < k → xs[i]? = some s → xs[k]? = some t → s.map[p]? = some a → t.map[q]? = some a → False := by
      intro i k s t hlt hs ht hp hq
      obtain ⟨e1, _⟩ := gather_split hs
      rw [e1] at hn
      have h1 : a ∈ not0 s.map := mem_not0.2 ⟨List.mem_of_getElem? hp, ha⟩
      have h2 : a ∈ gather (xs.drop (i + 1)) := by
        refine List.mem_flatMap.2 ⟨t, List.mem_of_getElem? (i := k - (i + 1)) ?_, mem_not0.2 ⟨List.mem_of_getElem? hq, ha⟩⟩
        rw [List.getElem?_drop, show i + 1 + (k - (i + 1)) = k by omega]; exact ht
      exact (List.nodup_append.1 (List.nodup_append.1 hn).2.1).2.2 a h1 a h2 rfl
    rcases Nat.lt_trichotomy i k with h | h | h
    · exact (key h hs ht hp hq).elim
    · exact h
    · obtain ⟨e1, _⟩ := gather_split ht
      have hn' := hn
      rw [e1] at hn'
      have h1 : a ∈ not0 t.map := mem_not0.2 ⟨List.mem_of_getElem? hq, ha⟩
      have h2 : a ∈ gather (xs.drop (k + 1)) := by
        refine List.mem_flatMap.2 ⟨s, List.mem_of_getElem? (i := i - (k + 1)) ?_, mem_not0.2 ⟨List.mem_of_getElem? hp, ha⟩⟩
        rw [List.getElem?_drop, show k + 1 + (i - (k + 1)) = i by omega]; exact hs
      exact ((List.nodup_append.1 (List.nodup_append.1 hn').2.1).2.2 a h1 a h2 rfl).elim
  subst hik
  rw [hs] at ht; cases ht
  refine ⟨rfl, not0_apart ?_ hp hq ha⟩
  obtain ⟨e1, _⟩ := gather_split hs
  rw [e1] at hn
  exact (List.nodup_append.1 (List.nodup_append.1 hn).2.1).1
theorem Snap.at_get {s : Snap} {no : Int} (h : s.at no ≠ 0) : s.map[no.toNat]? = some (s.at no) := by
  unfold Snap.at at h ⊢
  rw [List.getD_eq_getElem?_getD] at h ⊢
  cases e : s.map[no.toNat]? with
  | none => rw [e] at h; exact absurd rfl h
  | some x => rfl
theorem mem_sideOf {w s : Snap} {a no : Int} : (a, no) ∈ sideOf w s 32 ↔ 0 ≤ no ∧ no < 32 ∧ a = s.at no ∧ s.at no ≠ 0 ∧ w.at no ≠ s.at no := by
  unfold sideOf
  rw [List.mem_filter]
  constructor
  · rintro ⟨h1, h2⟩
    obtain ⟨k, hk, e⟩ := List.mem_map.1 h1
    rw [List.mem_range] at hk
    injection e with e1 e2
    subst e1; subst e2
    have := of_decide_eq_true h2
    exact ⟨by omega, by omega, rfl, this.1, this.2⟩
  · rintro ⟨h1, h2, rfl, h4, h5⟩
    refine ⟨List.mem_map.2 ⟨no.toNat, List.mem_range.2 (by omega), ?_⟩, decide_eq_true ⟨h4, h5⟩⟩
    rw [show ((no.toNat : Nat) : Int) = no by omega]
theorem laySides_off {Q : Pages} : ∀ {l : List (Int × Int)} {c : Chg} {a : Int}, (∀ p ∈ l, p.1 ≠ a) → laySides Q c l a = c a := by
  intro l
  induction l with
  | nil => intro c a _; rfl
  | cons p l ih =>
    intro c a h
    show laySides Q (updO c p.1 (Q p.2)) l a = _
    rw [ih fun q hq => h q (by simp [hq])]
    unfold updO; rw [if_neg (fun e => h p (by simp) e.symm)]
theorem laySides_on {Q : Pages} : ∀ {l : List (Int × Int)} {c : Chg} {a no : Int}, (a, no) ∈ l → (∀ no', (a, no') ∈ l → no' = no) → laySides Q c l a = some (Q no) := by
  intro l
  induction l with
  | nil => intro c a no h; cases h
  | cons p l ih =>
    intro c a no h hu
    show laySides Q (updO c p.1 (Q p.2)) l a = _
    by_cases hl : ∃ no', (a, no') ∈ l
    · obtain ⟨no', hl⟩ := hl
      have := hu no' (by simp [hl]); subst this
      exact ih hl fun m hm => hu m (by simp [hm])
    · rw [laySides_off fun q hq e => hl ⟨q.2, by rw [← e]; exact hq⟩]
      rcases List.mem_cons.1 h with h | h
      · subst h; unfold updO; rw [if_pos rfl]
      · exact absurd ⟨no, h⟩ hl
end Go.Pl
end
