/- A device, plainly: sectors as they are now and as they last, a fuse. Pages of four sectors. No program in sight. -/
import Derived.Test.YtoalhcodigpgkaaSxL
import Derived.Test.YtoalhcodigpgkaaPlA
namespace Go.Pl
open Go Go.Sx

structure Sec where
  now : List UInt8
  lasts : List UInt8
  loose : Bool
abbrev Sec.ok (s : Sec) : Prop := s.now.length = 64 ∧ s.lasts.length = 64
def encSec (s : Sec) : List Value := s.now.flatMap encB ++ (s.lasts.flatMap encB ++ [.bool s.loose])
def noughts (n : Nat) : List UInt8 := List.replicate n 0
def sec0 : Sec := ⟨noughts 64, noughts 64, false⟩
def Sec.rest (s : Sec) : Sec := ⟨s.now, s.now, false⟩
def Sec.put (s : Sec) (b : List UInt8) : Sec := ⟨b ++ s.now.drop b.length, s.lasts, true⟩

structure Dev where
  secs : List Sec
  fuse : Option Nat
  dead : Bool
def Dev.gone (d : Dev) : Bool := d.dead || (d.fuse == some 0)
def Dev.burn (d : Dev) : Dev := { d with fuse := d.fuse.map (· - 1) }
def Dev.new (n : Int) : Dev := ⟨List.replicate (min (max n 1) 2048).toNat sec0, none, false⟩
def Dev.in (d : Dev) (i : Int) : Prop := 0 ≤ i ∧ i < d.secs.length
instance (d : Dev) (i : Int) : Decidable (d.in i) := by unfold Dev.in; exact inferInstance
def Dev.at (d : Dev) (i : Int) : Int := if d.in i then 0 else 3
def Dev.sec (d : Dev) (i : Int) : Sec := d.secs.getD i.toNat sec0
def Dev.read (d : Dev) (i : Int) : List UInt8 × Int := if d.in i then ((d.sec i).now, 0) else ([], 3)
def Dev.write (d : Dev) (i : Int) (b : List UInt8) : Dev × Int :=
  if d.gone = true then (d, 5) else if ¬ d.in i then (d, 3) else if 64 < b.length then (d, 1)
  else ({ d.burn with secs := d.secs.set i.toNat ((d.sec i).put b) }, 0)
def Dev.flush (d : Dev) : Dev × Int := if d.gone = true then (d, 5) else ({ d.burn with secs := d.secs.map Sec.rest }, 0)
def Dev.light (d : Dev) (n : Int) : Dev := { d with fuse := if 0 ≤ n then some n.toNat else none, dead := d.gone || n == 0 }
def crashSecs (keep : List Bool) : List Sec → Nat → List Sec
  | [], _ => []
  | s :: l, j => if s.loose = true then (if keep.getD j false = true then s.now else s.lasts, j + 1) |> fun p => ⟨p.1, p.1, false⟩ :: crashSecs keep l p.2 else ⟨s.lasts, s.lasts, false⟩ :: crashSecs keep l j
def Dev.crash (d : Dev) (keep : List Bool) : Dev := ⟨crashSecs keep d.secs 0, none, false⟩

/-- every sector has its sixty-four bytes twice -/
structure Dev.ok (d : Dev) : Prop where
  secs : ∀ s ∈ d.secs, s.ok
  pos : 1 ≤ d.secs.length
  most : d.secs.length ≤ 2048
  fuse : ∀ n, d.fuse = some n → n ≤ 9223372036854775807

theorem length_bytes (l : List UInt8) : (l.flatMap encB).length = l.length := by
  induction l with
  | nil => rfl
  | cons c l ih => simp [encB, ih]
theorem length_sec {s : Sec} (h : s.ok) : (encSec s).length = 129 := by
  unfold encSec; rw [List.length_append, List.length_append, length_bytes, length_bytes, h.1, h.2]; rfl
theorem ones_bytes (l : List UInt8) : ones (l.flatMap encB) = true := bytes_ones (fun _ => rfl) l
theorem ones_app {a b : List Value} (ha : ones a = true) (hb : ones b = true) : ones (a ++ b) = true := by unfold ones at *; rw [List.all_append, ha, hb]; rfl
theorem ones_sec (s : Sec) : ones (encSec s) = true := ones_app (ones_bytes _) (ones_app (ones_bytes _) rfl)
theorem take_bytes (l : List UInt8) (n : Nat) : (l.take n).flatMap encB = (l.flatMap encB).take n := by
  have := flatMap_take (enc := encB) (sz := 1) (xs := l) (fun _ _ => rfl) n
  rw [Nat.mul_one] at this; exact this.symm
theorem drop_bytes (l : List UInt8) (n : Nat) : (l.drop n).flatMap encB = (l.flatMap encB).drop n := by
  have := flatMap_drop (enc := encB) (sz := 1) (xs := l) (fun _ _ => rfl) n
  rw [Nat.mul_one] at this; exact this.symm
theorem sec_now {s : Sec} (h : s.ok) : ((encSec s).drop 0).take (64 * 1) = s.now.flatMap encB := by
  unfold encSec; rw [List.drop_zero, List.take_append_of_le_length (by rw [length_bytes, h.1]; omega), List.take_of_length_le (by rw [length_bytes, h.1]; omega)]
theorem sec_lasts {s : Sec} (h : s.ok) : ((encSec s).drop 64).take (64 * 1) = s.lasts.flatMap encB := by
  have h1 : (s.now.flatMap encB).length = 64 := by rw [length_bytes, h.1]
  have h2 : (s.lasts.flatMap encB).length = 64 := by rw [length_bytes, h.2]
  unfold encSec; rw [← h1, List.drop_left, h1, List.take_append_of_le_length (by omega), List.take_of_length_le (by omega)]
theorem sec_loose {s : Sec} (h : s.ok) : (encSec s)[128]? = some (.bool s.loose) := by
  have h1 : (s.now.flatMap encB).length = 64 := by rw [length_bytes, h.1]
  have h2 : (s.lasts.flatMap encB).length = 64 := by rw [length_bytes, h.2]
  unfold encSec; rw [List.getElem?_append_right (by omega), List.getElem?_append_right (by omega), h1, h2]; rfl
theorem splice_now {s : Sec} (h : s.ok) {b : List UInt8} (hb : b.length ≤ 64) : splice (encSec s) 0 (b.flatMap encB) = encSec ⟨b ++ s.now.drop b.length, s.lasts, s.loose⟩ := by
  unfold splice encSec
  rw [List.take_zero, List.nil_append, Nat.zero_add, length_bytes, List.drop_append_of_le_length (by rw [length_bytes, h.1]; omega), List.flatMap_append, drop_bytes, List.append_assoc]
theorem splice_lasts {s : Sec} (h : s.ok) {b : List UInt8} (hb : b.length = 64) : splice (encSec s) 64 (b.flatMap encB) = encSec ⟨s.now, b, s.loose⟩ := by
  have h1 : (s.now.flatMap encB).length = 64 := by rw [length_bytes, h.1]
  have h2 : (s.lasts.flatMap encB).length = 64 := by rw [length_bytes, h.2]
  unfold splice encSec
  rw [length_bytes, hb, List.take_append_of_le_length (by omega), List.take_of_length_le (by omega), List.drop_append, h1, List.drop_eq_nil_of_le (by omega), List.nil_append]
  rw [show 64 + 64 - 64 = 64 from rfl, List.drop_append, h2, List.drop_eq_nil_of_le (by omega)]
  simp
theorem splice_loose {s : Sec} (h : s.ok) (x : Bool) : splice (encSec s) 128 [.bool x] = encSec ⟨s.now, s.lasts, x⟩ := by
  have h1 : (s.now.flatMap encB).length = 64 := by rw [length_bytes, h.1]
  have h2 : (s.lasts.flatMap encB).length = 64 := by rw [length_bytes, h.2]
  unfold splice encSec
  rw [← List.append_assoc, List.take_append_of_le_length (by rw [List.length_append]; omega), List.take_of_length_le (by rw [List.length_append]; omega)]
  rw [List.drop_eq_nil_of_le (by simp only [List.length_append, List.length_cons, List.length_nil]; omega)]
  simp
theorem sec0_ok : sec0.ok := ⟨by simp [sec0, noughts], by simp [sec0, noughts]⟩
theorem Sec.put_ok {s : Sec} (h : s.ok) {b : List UInt8} (hb : b.length ≤ 64) : (s.put b).ok := ⟨by simp [Sec.put, h.1]; omega, h.2⟩
theorem Sec.rest_ok {s : Sec} (h : s.ok) : s.rest.ok := ⟨h.1, h.1⟩
theorem crash_ok (keep : List Bool) : ∀ (l : List Sec) (j : Nat), (∀ s ∈ l, s.ok) → ∀ s ∈ crashSecs keep l j, s.ok := by
  intro l
  induction l with
  | nil => intro j _ s hs; cases hs
  | cons x l ih =>
    intro j h s hs
    have hx := h x (by simp)
    unfold crashSecs at hs
    split at hs
    · rcases List.mem_cons.1 hs with rfl | hs
      · dsimp only; split
        · exact ⟨hx.1, hx.1⟩
        · exact ⟨hx.2, hx.2⟩
      · exact ih _ (fun y hy => h y (by simp [hy])) s hs
    · rcases List.mem_cons.1 hs with rfl | hs
      · exact ⟨hx.2, hx.2⟩
      · exact ih _ (fun y hy => h y (by simp [hy])) s hs
theorem crash_length (keep : List Bool) : ∀ (l : List Sec) (j : Nat), (crashSecs keep l j).length = l.length := by
  intro l
  induction l with
  | nil => intro j; rfl
  | cons x l ih => intro j; unfold crashSecs; split <;> simp [ih]

theorem splice_all {A B : List Value} {n : Nat} (hA : A.length = n) (hB : B.length = n) : splice A 0 B = B := by
  unfold splice; rw [List.take_zero, List.nil_append, List.drop_eq_nil_of_le (by omega), List.append_nil]
theorem fill_sec {x : List UInt8} (hx : x.length = 64) : fillL [(0, 64), (64, 64), (128, 1)] (encSec sec0) [(0, .agg ⟨x.flatMap encB⟩), (1, .agg ⟨x.flatMap encB⟩)] = some (encSec ⟨x, x, false⟩) := by
  have h1 : (x.flatMap encB).length = 64 := by rw [length_bytes, hx]
  have e1 : splice (encSec sec0) 0 (x.flatMap encB) = encSec ⟨x, sec0.lasts, false⟩ := by
    rw [splice_now sec0_ok (by omega), List.drop_eq_nil_of_le (by rw [hx, sec0_ok.1]; omega), List.append_nil]; rfl
  have e2 : splice (encSec ⟨x, sec0.lasts, false⟩) 64 (x.flatMap encB) = encSec ⟨x, x, false⟩ := splice_lasts (s := ⟨x, sec0.lasts, false⟩) ⟨hx, sec0_ok.2⟩ hx
  have l1 : (encSec sec0).length = 129 := length_sec sec0_ok
  have l2 : (encSec ⟨x, sec0.lasts, false⟩).length = 129 := length_sec ⟨hx, sec0_ok.2⟩
  simp only [fillL, List.getElem?_cons_zero, List.getElem?_cons_succ, Value.cells, List.size_toArray, h1, l1]
  simp only [e1, e2, l2]
  simp [fillL]
  rfl
theorem Dev.sec_at {d : Dev} {i : Int} (h : d.in i) : d.secs[i.toNat]? = some (d.sec i) := by
  have : i.toNat < d.secs.length := by unfold Dev.in at h; omega
  unfold Dev.sec
  rw [List.getD_eq_getElem?_getD, List.getElem?_eq_getElem this]; rfl
theorem Dev.sec_ok {d : Dev} (hd : d.ok) {i : Int} (h : d.in i) : (d.sec i).ok := hd.secs _ (List.mem_of_getElem? (Dev.sec_at h))
theorem Dev.burn_ok {d : Dev} (hd : d.ok) : d.burn.ok := ⟨hd.secs, hd.pos, hd.most, fun n h => by
  unfold Dev.burn at h
  cases hf : d.fuse with
  | none => rw [hf] at h; cases h
  | some m => rw [hf] at h; have := hd.fuse m hf; simp at h; omega⟩
theorem Dev.new_ok (n : Int) : (Dev.new n).ok := ⟨fun s hs => by unfold Dev.new at hs; rw [List.eq_of_mem_replicate hs]; exact sec0_ok,
  by unfold Dev.new; simp; omega, by unfold Dev.new; simp; omega, fun n h => by unfold Dev.new at h; cases h⟩
theorem Dev.write_ok {d : Dev} (hd : d.ok) (i : Int) (b : List UInt8) : (d.write i b).1.ok := by
  unfold Dev.write
  split
  · exact hd
  · split
    · exact hd
    · rename_i hi
      have hi : d.in i := Classical.byContradiction hi
      split
      · exact hd
      · refine ⟨fun s hs => ?_, ?_, ?_, (Dev.burn_ok hd).fuse⟩
        · rcases List.mem_or_eq_of_mem_set hs with hs | rfl
          · exact hd.secs s hs
          · exact Sec.put_ok (Dev.sec_ok hd hi) (by omega)
        · have := hd.pos; simpa using this
        · have := hd.most; simpa using this
theorem Dev.flush_ok {d : Dev} (hd : d.ok) : d.flush.1.ok := by
  unfold Dev.flush
  split
  · exact hd
  · refine ⟨fun s hs => ?_, by have := hd.pos; simpa using this, by have := hd.most; simpa using this, (Dev.burn_ok hd).fuse⟩
    obtain ⟨x, hx, rfl⟩ := List.mem_map.1 hs
    exact Sec.rest_ok (hd.secs x hx)
theorem Dev.crash_ok {d : Dev} (hd : d.ok) (keep : List Bool) : (d.crash keep).ok :=
  ⟨Pl.crash_ok keep _ _ hd.secs, by unfold Dev.crash; rw [crash_length]; exact hd.pos, by unfold Dev.crash; rw [crash_length]; exact hd.most, fun n h => by unfold Dev.crash at h; cases h⟩
theorem Dev.light_ok {d : Dev} (hd : d.ok) {n : Int} (hn : n ≤ 9223372036854775807) : (d.light n).ok := by
  refine ⟨hd.secs, hd.pos, hd.most, fun m h => ?_⟩
  unfold Dev.light at h
  dsimp only at h
  split at h
  · have := Option.some.inj h; omega
  · cases h

/-- a device in memory: the struct and its sectors -/
structure IsDev (tS tD : Nat) (p : Value) (d : Dev) (H : Chunk) : Prop where
  ok : d.ok
  is : ∃ b a c K calls fu, p = .pointer (some ⟨b, 0, none⟩) ∧ Own encSec 129 tS (.slice a d.secs.length c) d.secs K ∧ (∀ n, d.fuse = some n → fu = (n : Int)) ∧
    H = [(b, blk [.slice a d.secs.length c, .int .i64 calls, .bool d.fuse.isSome, .int .i64 fu, .bool d.dead] tD (0, 0))] ++ K

theorem IsDev.of {tS tD b c n : Nat} {a : Option Addr} {K : Chunk} {calls fu : Int} {d : Dev} (hok : d.ok) (hn : n = d.secs.length) (hO : Own encSec 129 tS (.slice a n c) d.secs K) (hfu : ∀ m, d.fuse = some m → fu = (m : Int)) {fs dd : Bool}
    (hfs : fs = d.fuse.isSome) (hdd : dd = d.dead) : IsDev tS tD (.pointer (some ⟨b, 0, none⟩)) d ([(b, blk [.slice a n c, .int .i64 calls, .bool fs, .int .i64 fu, .bool dd] tD (0, 0))] ++ K) := by
  subst hn; subst hfs; subst hdd
  exact ⟨hok, b, a, c, K, calls, fu, rfl, hO, hfu, rfl⟩

/-- the first j sectors last -/
def restTo (l : List Sec) (j : Nat) : List Sec := (l.take j).map Sec.rest ++ l.drop j
theorem restTo_zero (l : List Sec) : restTo l 0 = l := by simp [restTo]
theorem restTo_all (l : List Sec) : restTo l l.length = l.map Sec.rest := by simp [restTo]
theorem restTo_length (l : List Sec) (j : Nat) : (restTo l j).length = l.length := by simp [restTo]; omega
theorem restTo_at {l : List Sec} {j : Nat} {s : Sec} (h : l[j]? = some s) : (restTo l j)[j]? = some s := by
  have hj : j < l.length := (List.getElem?_eq_some_iff.1 h).1
  unfold restTo
  rw [List.getElem?_append_right (by simp; omega)]
  simp only [List.length_map, List.length_take, Nat.min_eq_left (Nat.le_of_lt hj), Nat.sub_self, List.getElem?_drop, Nat.add_zero]
  exact h
theorem restTo_set {l : List Sec} {j : Nat} {s : Sec} (h : l[j]? = some s) : (restTo l j).set j s.rest = restTo l (j + 1) := by
  have hj : j < l.length := (List.getElem?_eq_some_iff.1 h).1
  unfold restTo
  rw [List.set_append_right _ _ (by simp; omega)]
  simp only [List.length_map, List.length_take, Nat.min_eq_left (Nat.le_of_lt hj), Nat.sub_self]
  rw [drop_cons h, take_succ h, List.set_cons_zero, List.map_append, List.append_assoc]
  rfl
def looseN (l : List Sec) : Nat := (l.filter (·.loose)).length
theorem crash_snoc (keep : List Bool) (s : Sec) : ∀ (l : List Sec) (j : Nat), crashSecs keep (l ++ [s]) j = crashSecs keep l j ++ crashSecs keep [s] (j + looseN l) := by
  intro l
  induction l with
  | nil => intro j; simp [looseN, crashSecs]
  | cons x l ih =>
    intro j
    rw [List.cons_append, crashSecs]
    conv => rhs; rw [crashSecs]
    by_cases hx : x.loose = true
    · rw [if_pos hx, if_pos hx]
      dsimp only
      rw [ih, show looseN (x :: l) = looseN l + 1 by simp [looseN, hx], List.cons_append, show j + 1 + looseN l = j + (looseN l + 1) by omega]
    · rw [if_neg hx, if_neg hx, ih, show looseN (x :: l) = looseN l by simp [looseN, hx], List.cons_append]
/-- a crash, as far as sector i -/
def crashTo (keep : List Bool) (l : List Sec) (i : Nat) : List Sec := crashSecs keep (l.take i) 0 ++ List.replicate (l.length - i) sec0
theorem crashTo_zero (keep : List Bool) (l : List Sec) : crashTo keep l 0 = List.replicate l.length sec0 := by simp [crashTo, crashSecs]
theorem crashTo_all (keep : List Bool) (l : List Sec) : crashTo keep l l.length = crashSecs keep l 0 := by simp [crashTo]
theorem crashTo_length (keep : List Bool) (l : List Sec) {i : Nat} (h : i ≤ l.length) : (crashTo keep l i).length = l.length := by
  unfold crashTo; rw [List.length_append, crash_length, List.length_take, List.length_replicate]; omega
theorem crashTo_at (keep : List Bool) {l : List Sec} {i : Nat} (h : i < l.length) : (crashTo keep l i)[i]? = some sec0 := by
  unfold crashTo
  rw [List.getElem?_append_right (by rw [crash_length, List.length_take]; omega), crash_length, List.length_take, List.getElem?_replicate, if_pos (by omega)]
theorem crashTo_set (keep : List Bool) {l : List Sec} {i : Nat} {s s' : Sec} (h : l[i]? = some s) (hs : crashSecs keep [s] (looseN (l.take i)) = [s']) : (crashTo keep l i).set i s' = crashTo keep l (i + 1) := by
  have hi : i < l.length := (List.getElem?_eq_some_iff.1 h).1
  unfold crashTo
  rw [take_succ h, crash_snoc, Nat.zero_add, hs, List.set_append_right _ _ (by rw [crash_length, List.length_take]; omega), crash_length, List.length_take]
  rw [show l.length - i = (l.length - (i + 1)) + 1 by omega, List.replicate_succ, show i - min i l.length = 0 by omega, List.set_cons_zero, List.append_assoc]
  rfl
theorem looseN_snoc {l : List Sec} {i : Nat} {s : Sec} (h : l[i]? = some s) : looseN (l.take (i + 1)) = looseN (l.take i) + if s.loose = true then 1 else 0 := by
  rw [take_succ h]; unfold looseN; rw [List.filter_append, List.length_append]
  by_cases hs : s.loose = true <;> simp [hs]
theorem looseN_le (l : List Sec) : looseN l ≤ l.length := List.length_filter_le _ _

/-! ### Pages -/
def mayPage (no : Int) : Prop := 0 ≤ no ∧ no < 96
instance (no : Int) : Decidable (mayPage no) := by unfold mayPage; exact inferInstance
def pageOf (b : List UInt8) : List UInt8 := b ++ noughts (256 - b.length)
/-- some sectors, one behind the other -/
def Dev.reads (d : Dev) : Int → Nat → List UInt8
  | _, 0 => []
  | i, n + 1 => (d.sec i).now ++ d.reads (i + 1) n
def readPage (d : Dev) (no : Int) : List UInt8 × Int :=
  if ¬ mayPage no then ([], 3) else if d.in (2 + 4 * no + 3) then (d.reads (2 + 4 * no) 4, 0) else ([], 3)
/-- sectors are written one behind the other, as far as it goes -/
def Dev.writes (d : Dev) : Int → List (List UInt8) → Dev × Int
  | _, [] => (d, 0)
  | i, b :: l => if (d.write i b).2 ≠ 0 then d.write i b else (d.write i b).1.writes (i + 1) l
def quarters (b : List UInt8) : List (List UInt8) := [b.take 64, (b.drop 64).take 64, (b.drop 128).take 64, (b.drop 192).take 64]
def writePage (d : Dev) (no : Int) (b : List UInt8) : Dev × Int :=
  if ¬ mayPage no then (d, 3) else if b.length ≠ 256 then (d, 1) else d.writes (2 + 4 * no) (quarters b)
theorem Dev.reads_snoc (d : Dev) : ∀ (n : Nat) (i : Int), d.reads i (n + 1) = d.reads i n ++ (d.sec (i + n)).now := by
  intro n
  induction n with
  | zero => intro i; simp [Dev.reads]
  | succ n ih =>
    intro i
    rw [Dev.reads, ih, Dev.reads, List.append_assoc]
    congr 3
    rw [show i + 1 + (n : Int) = i + ((n + 1 : Nat) : Int) by omega]
theorem Dev.reads_length {d : Dev} (hd : d.ok) : ∀ (n : Nat) (i : Int), 0 ≤ i → i + n ≤ d.secs.length → (d.reads i n).length = 64 * n := by
  intro n
  induction n with
  | zero => intro i _ _; rfl
  | succ n ih =>
    intro i h0 h1
    rw [Dev.reads, List.length_append, ih (i + 1) (by omega) (by omega), (Dev.sec_ok hd (i := i) (by unfold Dev.in; omega)).1]
    omega
theorem quarters_at {b : List UInt8} (_h : b.length = 256) {k : Nat} (hk : k < 4) : (quarters b).drop k = (b.take (64 * (k + 1))).drop (64 * k) :: (quarters b).drop (k + 1) := by
  have e : ∀ k, (b.take (64 * (k + 1))).drop (64 * k) = (b.drop (64 * k)).take 64 := by intro k; rw [List.drop_take]; congr 1; omega
  rw [e]
  match k, hk with
  | 0, _ => rfl
  | 1, _ => rfl
  | 2, _ => rfl
  | 3, _ => rfl
theorem Dev.writes_ok : ∀ (l : List (List UInt8)) {d : Dev} (i : Int), d.ok → (d.writes i l).1.ok := by
  intro l
  induction l with
  | nil => intro d i h; exact h
  | cons b l ih =>
    intro d i h
    rw [Dev.writes]
    split
    · exact Dev.write_ok h i b
    · exact ih _ (Dev.write_ok h i b)
end Go.Pl
