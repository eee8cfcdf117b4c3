/- Sums, numbers of some bytes, a text on two sectors: plainly. No program in sight. -/
import Derived.Test.YtoalhcodigpgkaaPdA
namespace Go.Pl
open Go Go.Sx

/-! ### the sum of bytes -/
def u32and (a b : Int) : Int := IntKind.u32.wrap (BitVec.ofInt IntKind.u32.bits a &&& BitVec.ofInt IntKind.u32.bits b).toNat
def u32xor (a b : Int) : Int := IntKind.u32.wrap (BitVec.ofInt IntKind.u32.bits a ^^^ BitVec.ofInt IntKind.u32.bits b).toNat
def u32not (n : Int) : Int := IntKind.u32.wrap (BitVec.ofInt IntKind.u32.bits (if IntKind.u32.signed then -1 else IntKind.u32.max) ^^^ BitVec.ofInt IntKind.u32.bits n).toNat
def crcBit (x : Int) : Int := u32xor (x.fdiv (2 ^ min (1 : Int).toNat IntKind.u32.bits)) (u32and 3988292384 (IntKind.u32.wrap (0 - u32and x 1)))
def crcBits : Nat → Int → Int
  | 0, x => x
  | n + 1, x => crcBit (crcBits n x)
def crcByte (x : Int) (c : UInt8) : Int := crcBits 8 (u32xor x (IntKind.u32.wrap c.toNat))
def crcAll (x : Int) (bs : List UInt8) : Int := bs.foldl crcByte x
def crcSum (bs : List UInt8) : Int := u32not (crcAll (u32not 0) bs)
theorem u32not_range (n : Int) : 0 ≤ u32not n ∧ u32not n < 4294967296 := by
  unfold u32not
  have h := (BitVec.ofInt IntKind.u32.bits (if IntKind.u32.signed then -1 else IntKind.u32.max) ^^^ BitVec.ofInt IntKind.u32.bits n).isLt
  have e : IntKind.u32.bits = 32 := rfl
  generalize (BitVec.ofInt IntKind.u32.bits (if IntKind.u32.signed then -1 else IntKind.u32.max) ^^^ BitVec.ofInt IntKind.u32.bits n).toNat = m at *
  rw [IntKind.wrap_u32]
  omega
theorem crcSum_range (bs : List UInt8) : 0 ≤ crcSum bs ∧ crcSum bs < 4294967296 := u32not_range _

/-! ### numbers of some bytes, the great ones first -/
def be : Nat → Nat → List UInt8
  | 0, _ => []
  | k + 1, n => UInt8.ofNat (n / 256 ^ k) :: be k n
def fromBe (l : List UInt8) : Nat := l.foldl (fun n c => n * 256 + c.toNat) 0
theorem be_length (k n : Nat) : (be k n).length = k := by
  induction k with
  | zero => rfl
  | succ k ih => simp [be, ih]
theorem fromBe_snoc (l : List UInt8) (c : UInt8) : fromBe (l ++ [c]) = fromBe l * 256 + c.toNat := by simp [fromBe]
theorem fromBe_lt : ∀ (l : List UInt8), fromBe l < 256 ^ l.length := by
  intro l
  suffices h : ∀ (l : List UInt8) (n m : Nat), n < 256 ^ m → l.foldl (fun n c => n * 256 + c.toNat) n < 256 ^ (m + l.length) by
    have := h l 0 0 (by decide)
    simpa [fromBe] using this
  intro l
  induction l with
  | nil => intro n m h; simpa using h
  | cons c l ih =>
    intro n m h
    simp only [List.foldl_cons, List.length_cons]
    have h1 := c.toNat_lt
    have := ih (n * 256 + c.toNat) (m + 1) (by rw [Nat.pow_succ]; omega)
    rw [show m + (l.length + 1) = m + 1 + l.length by omega]
    exact this
theorem foldBe (k n : Nat) : ∀ a, (be k n).foldl (fun n c => n * 256 + c.toNat) a = a * 256 ^ k + n % 256 ^ k := by
  induction k with
  | zero => intro a; simp [be, Nat.mod_one]
  | succ k ih =>
    intro a
    simp only [be, List.foldl_cons]
    rw [ih, UInt8.toNat_ofNat']
    have h2 : n % (256 ^ k * 256) = n % 256 ^ k + 256 ^ k * (n / 256 ^ k % 256) := Nat.mod_mul
    have e1 : (256 : Nat) ^ (k + 1) = 256 ^ k * 256 := Nat.pow_succ ..
    have e2 : (2 : Nat) ^ 8 = 256 := rfl
    rw [e1, h2, e2, Nat.add_mul, Nat.mul_assoc, Nat.mul_comm 256 (256 ^ k), Nat.mul_comm (n / 256 ^ k % 256) (256 ^ k)]
    omega
theorem fromBe_be {k n : Nat} (h : n < 256 ^ k) : fromBe (be k n) = n := by
  unfold fromBe; rw [foldBe, Nat.zero_mul, Nat.zero_add, Nat.mod_eq_of_lt h]

/-! ### a sector with a text -/
def supBody (n : Nat) (b : List UInt8) : List UInt8 := be 8 n ++ (UInt8.ofNat b.length :: (b ++ noughts (51 - b.length)))
def supSec (n : Nat) (b : List UInt8) : List UInt8 := be 4 (crcSum (supBody n b)).toNat ++ supBody n b
theorem supBody_length {n : Nat} {b : List UInt8} (h : b.length ≤ 51) : (supBody n b).length = 60 := by
  unfold supBody noughts; simp [be_length]; omega
theorem supSec_length {n : Nat} {b : List UInt8} (h : b.length ≤ 51) : (supSec n b).length = 64 := by
  unfold supSec; rw [List.length_append, be_length, supBody_length h]

structure Sup where
  slot : Int
  turn : Nat
  text : List UInt8
structure Sup.ok (s : Sup) : Prop where
  slot : 0 ≤ s.slot ∧ s.slot ≤ 1
  turn : s.turn ≤ 4611686018427387904
  text : s.text.length ≤ 40
def supWrite (s : Sup) (d : Dev) (at_ slot : Int) (n : Nat) (b : List UInt8) : Sup × Dev × Int :=
  if (d.write (at_ + slot) (supSec n b)).2 ≠ 0 then (s, (d.write (at_ + slot) (supSec n b)).1, (d.write (at_ + slot) (supSec n b)).2)
  else if (d.write (at_ + slot) (supSec n b)).1.flush.2 ≠ 0 then (s, (d.write (at_ + slot) (supSec n b)).1.flush.1, (d.write (at_ + slot) (supSec n b)).1.flush.2)
  else (⟨slot, n, b⟩, (d.write (at_ + slot) (supSec n b)).1.flush.1, 0)
def Sup.save (s : Sup) (d : Dev) (at_ : Int) (b : List UInt8) : Sup × Dev × Int :=
  if 40 < b.length then (s, d, 1) else supWrite s d at_ (1 - s.slot) (s.turn + 1) b
theorem supWrite_ok {s : Sup} {d : Dev} (hd : d.ok) (at_ slot : Int) (n : Nat) (b : List UInt8) : (supWrite s d at_ slot n b).2.1.ok := by
  unfold supWrite
  split
  · exact Dev.write_ok hd _ _
  · split
    · exact Dev.flush_ok (Dev.write_ok hd _ _)
    · exact Dev.flush_ok (Dev.write_ok hd _ _)
/-- a Super in memory -/
structure IsSup (tU tP : Nat) (p pd : Value) (at_ : Int) (s : Sup) (H : Chunk) : Prop where
  slot : 0 ≤ s.slot ∧ s.slot ≤ 1
  text : s.text.length ≤ 60
  is : ∃ b v K, p = .pointer (some ⟨b, 0, none⟩) ∧ Own encB 1 tU v s.text K ∧ oneC v = true ∧ H = [(b, blk [pd, .int .i64 at_, .int .i64 s.slot, .int .i64 (s.turn : Nat), v] tP (0, 0))] ++ K

theorem over_mid {A B C ys : List UInt8} {n : Nat} (hA : A.length = n) (hB : B.length = ys.length) : over (A ++ (B ++ C)) n ys = A ++ (ys ++ C) := by
  subst hA
  unfold over
  rw [List.take_left, ← hB, List.drop_append, List.drop_eq_nil_of_le (by omega), List.nil_append, show A.length + B.length - A.length = B.length by omega, List.drop_left, List.append_assoc]
theorem noughts_add (a b : Nat) : noughts (a + b) = noughts a ++ noughts b := by unfold noughts; rw [List.replicate_append_replicate]
theorem noughts_length (a : Nat) : (noughts a).length = a := List.length_replicate
theorem sup_over {n : Nat} {b : List UInt8} (hb : b.length ≤ 51) :
    over (over (over (List.replicate 64 (0 : UInt8)) 4 (be 8 n)) 12 [UInt8.ofNat b.length]) 13 b = noughts 4 ++ supBody n b := by
  have e : List.replicate 64 (0 : UInt8) = noughts 4 ++ (noughts 8 ++ (noughts 1 ++ (noughts b.length ++ noughts (51 - b.length)))) := by
    rw [← noughts_add, ← noughts_add, ← noughts_add, ← noughts_add]
    show noughts 64 = _
    congr 1; omega
  rw [e, over_mid (noughts_length 4) (by rw [noughts_length, be_length]), ← List.append_assoc, over_mid (by rw [List.length_append, noughts_length, be_length]) (by rw [noughts_length]; rfl)]
  rw [← List.append_assoc (noughts 4 ++ be 8 n), over_mid (by rw [List.length_append, List.length_append, noughts_length, be_length]; rfl) (noughts_length _)]
  unfold supBody
  simp
theorem sup_over4 {n : Nat} {b : List UInt8} : over (noughts 4 ++ supBody n b) 0 (be 4 (crcSum (supBody n b)).toNat) = supSec n b := by
  have := over_mid (A := []) (B := noughts 4) (C := supBody n b) (ys := be 4 (crcSum (supBody n b)).toNat) (n := 0) rfl (by rw [noughts_length, be_length])
  simpa [supSec] using this
theorem shr8 {x i : Nat} (hi : i ≤ 7) : (x : Int).fdiv (2 ^ min ((8 * i : Nat) : Int).toNat IntKind.u64.bits) = ((x / 256 ^ i : Nat) : Int) := by
  have e : IntKind.u64.bits = 64 := rfl
  rw [Int.toNat_natCast, e, Nat.min_eq_left (by omega), Int.fdiv_eq_ediv_of_nonneg _ (Int.le_of_lt (Int.pow_pos (by decide)))]
  have : (2 : Int) ^ (8 * i) = ((256 ^ i : Nat) : Int) := by rw [Int.pow_mul]; norm_cast
  rw [this]; norm_cast
theorem byte_of (m : Nat) : IntKind.u8.wrap (m : Int) = ((UInt8.ofNat m).toNat : Int) := by
  rw [u8_mod, UInt8.toNat_ofNat']
theorem shl8or {a : Nat} {c : UInt8} (ha : a < 72057594037927936) : IntKind.u64.wrap ((BitVec.ofInt IntKind.u64.bits (IntKind.u64.wrap ((a : Int) * 2 ^ min (8 : Int).toNat IntKind.u64.bits)) ||| BitVec.ofInt IntKind.u64.bits (IntKind.u64.wrap (c.toNat : Int))).toNat : Int) = ((a * 256 + c.toNat : Nat) : Int) := by
  have e : (2 : Int) ^ min (8 : Int).toNat IntKind.u64.bits = 256 := by decide
  have hc := c.toNat_lt
  rw [e, wrap_u64 (n := (a : Int) * 256) (by omega) (by omega), wrap_u64 (n := (c.toNat : Int)) (by omega) (by omega), show (a : Int) * 256 = ((a * 256 : Nat) : Int) by omega, or64 (by omega) (by omega)]
  congr 1
  have := Nat.shiftLeft_add_eq_or_of_lt (i := 8) (b := c.toNat) (by omega) a
  rw [Nat.shiftLeft_eq] at this
  exact this.symm
/-! ### made, opened -/
def optSup (tU tP : Nat) (pd : Value) (at_ : Int) : Option Sup → Value → Chunk → Prop
  | none, p, H => p = .pointer none ∧ H = []
  | some s, p, H => IsSup tU tP p pd at_ s H
def supMake (d : Dev) (at_ : Int) (b : List UInt8) : Option Sup × Dev × Int :=
  if 40 < b.length then (none, d, 1) else if ¬ (0 ≤ at_ ∧ at_ < (d.secs.length : Int) - 1) then (none, d, 3)
  else if (d.writes at_ [noughts 64, noughts 64]).2 ≠ 0 then (none, (d.writes at_ [noughts 64, noughts 64]).1, (d.writes at_ [noughts 64, noughts 64]).2)
  else if (supWrite ⟨0, 0, []⟩ (d.writes at_ [noughts 64, noughts 64]).1 at_ 0 1 b).2.2 ≠ 0 then (none, (supWrite ⟨0, 0, []⟩ (d.writes at_ [noughts 64, noughts 64]).1 at_ 0 1 b).2.1, (supWrite ⟨0, 0, []⟩ (d.writes at_ [noughts 64, noughts 64]).1 at_ 0 1 b).2.2)
  else (some (supWrite ⟨0, 0, []⟩ (d.writes at_ [noughts 64, noughts 64]).1 at_ 0 1 b).1, (supWrite ⟨0, 0, []⟩ (d.writes at_ [noughts 64, noughts 64]).1 at_ 0 1 b).2.1, 0)
/-- what a sector tells of the turn -/
def secTurn (x : List UInt8) : Int := IntKind.i64.wrap (fromBe ((x.take 12).drop 4) : Nat)
def secText (x : List UInt8) : List UInt8 := (x.take (13 + (x.getD 12 0).toNat)).drop 13
def supStep (x : List UInt8) (k : Int) (s : Sup) : Sup :=
  if crcSum (x.drop 4) = (fromBe (x.take 4) : Nat) ∧ secTurn x > (s.turn : Int) ∧ (x.getD 12 0).toNat ≤ 40 then ⟨k, (secTurn x).toNat, secText x⟩ else s
def supTo (d : Dev) (at_ : Int) : Nat → Sup
  | 0 => ⟨0, 0, []⟩
  | k + 1 => supStep (d.sec (at_ + k)).now k (supTo d at_ k)
def supOpen (d : Dev) (at_ : Int) : Option Sup × Int :=
  if ¬ (0 ≤ at_ ∧ at_ < (d.secs.length : Int) - 1) then (none, 3) else if (supTo d at_ 2).turn = 0 then (none, 8) else (some (supTo d at_ 2), 0)
theorem secTurn_range (x : List UInt8) : -9223372036854775808 ≤ secTurn x ∧ secTurn x ≤ 9223372036854775807 := by
  unfold secTurn; rw [IntKind.wrap_i64]; omega
theorem secText_length {x : List UInt8} (h : (x.getD 12 0).toNat ≤ 40) : (secText x).length ≤ 40 := by
  unfold secText; rw [List.length_drop, List.length_take]; omega
theorem supStep_ok {x : List UInt8} {k : Int} {s : Sup} (hk : 0 ≤ k ∧ k ≤ 1) (h : (0 ≤ s.slot ∧ s.slot ≤ 1) ∧ s.text.length ≤ 40 ∧ s.turn ≤ 9223372036854775807) :
    (0 ≤ (supStep x k s).slot ∧ (supStep x k s).slot ≤ 1) ∧ (supStep x k s).text.length ≤ 40 ∧ (supStep x k s).turn ≤ 9223372036854775807 := by
  unfold supStep
  split
  · rename_i hc
    have := secTurn_range x
    exact ⟨hk, secText_length hc.2.2, by dsimp only; omega⟩
  · exact h
theorem supTo_ok (d : Dev) (at_ : Int) {k : Nat} (hk : k ≤ 2) : (0 ≤ (supTo d at_ k).slot ∧ (supTo d at_ k).slot ≤ 1) ∧ (supTo d at_ k).text.length ≤ 40 ∧ (supTo d at_ k).turn ≤ 9223372036854775807 := by
  induction k with
  | zero => exact ⟨by simp [supTo], by simp [supTo], by simp [supTo]⟩
  | succ k ih => exact supStep_ok (by omega) (ih (by omega))
theorem IsDev.ptr {tS tD : Nat} {p : Value} {d : Dev} {H : Chunk} (h : IsDev tS tD p d H) : ∃ b, p = .pointer (some ⟨b, 0, none⟩) := by
  obtain ⟨b, a, c, K, calls, fu, hp, _⟩ := h.is; exact ⟨b, hp⟩
theorem IsSup.ptr {tU tP : Nat} {p pd : Value} {at_ : Int} {s : Sup} {H : Chunk} (h : IsSup tU tP p pd at_ s H) : ∃ b, p = .pointer (some ⟨b, 0, none⟩) := by
  obtain ⟨b, v, K, hp, _⟩ := h.is; exact ⟨b, hp⟩
end Go.Pl
