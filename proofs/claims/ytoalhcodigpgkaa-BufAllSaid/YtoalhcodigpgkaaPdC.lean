/- A log, plainly: a ring of bytes, records that were forced, and those that were not. No program in sight. -/
import Derived.Test.YtoalhcodigpgkaaPdB
namespace Go.Pl
open Go Go.Sx

def encN (n : Nat) : List Value := [.int .i64 (n : Int)]
structure Log where
  ring : List UInt8
  base : Nat
  forced : Nat
  end_ : Nat
  ends : List Nat
  bad : Bool
  sup : Sup
def ringPut : List UInt8 → Nat → List UInt8 → List UInt8
  | ring, _, [] => ring
  | ring, at_, c :: l => ringPut (ring.set (at_ % 65536) c) (at_ + 1) l
def Log.put (l : Log) (b : List UInt8) : Log := { l with ring := ringPut l.ring l.end_ b, end_ := l.end_ + b.length }
def Log.fits (l : Log) (n : Int) : Prop := 1 ≤ n ∧ n ≤ 60000 ∧ n + 4 ≤ 65536 - ((l.end_ : Int) - l.base)
instance (l : Log) (n : Int) : Decidable (l.fits n) := by unfold Log.fits; exact inferInstance
def Log.append (l : Log) (b : List UInt8) : Log × Int × Int :=
  if l.bad = true then (l, 0, 5) else if b.length < 1 ∨ 60000 < b.length then (l, 0, 1) else if ¬ l.fits b.length then (l, 0, 4)
  else ({ (l.put (be 4 b.length)).put b with ends := l.ends ++ [((l.put (be 4 b.length)).put b).end_] }, ((l.put (be 4 b.length)).put b).end_, 0)
def logText (base to : Nat) : List UInt8 := Pl.put base ++ Pl.put to
def ringSec (ring : List UInt8) (i : Nat) : List UInt8 := (ring.take (64 * (i + 1))).drop (64 * i)
def wrSecs (ring : List UInt8) : Dev → Nat → Nat → Dev × Int
  | d, _, 0 => (d, 0)
  | d, k, n + 1 => if (d.write (386 + (k % 1024 : Nat)) (ringSec ring (k % 1024))).2 ≠ 0 then d.write (386 + (k % 1024 : Nat)) (ringSec ring (k % 1024))
    else wrSecs ring (d.write (386 + (k % 1024 : Nat)) (ringSec ring (k % 1024))).1 (k + 1) n
def secsTo (k to : Nat) : Nat := (to + 63) / 64 - k
def Log.write (l : Log) (d : Dev) (to : Nat) : Sup × Dev × Int :=
  if (wrSecs l.ring d (l.forced / 64) (secsTo (l.forced / 64) to)).2 ≠ 0 then (l.sup, wrSecs l.ring d (l.forced / 64) (secsTo (l.forced / 64) to))
  else if (wrSecs l.ring d (l.forced / 64) (secsTo (l.forced / 64) to)).1.flush.2 ≠ 0 then (l.sup, (wrSecs l.ring d (l.forced / 64) (secsTo (l.forced / 64) to)).1.flush)
  else l.sup.save (wrSecs l.ring d (l.forced / 64) (secsTo (l.forced / 64) to)).1.flush.1 0 (logText l.base to)
/-- how many of the first ones are not behind a place -/
def lead (to : Int) : List Nat → Nat
  | [] => 0
  | e :: l => if (e : Int) ≤ to then lead to l + 1 else 0
def Log.far (l : Log) (to : Int) : Nat := if lead to l.ends = 0 then l.forced else l.ends.getD (lead to l.ends - 1) 0
def Log.force (l : Log) (d : Dev) (to : Int) : Log × Dev × Int :=
  if l.bad = true then (l, d, 5) else if l.far to = l.forced then (l, d, 0)
  else if (l.write d (l.far to)).2.2 ≠ 0 then ({ l with bad := true, sup := (l.write d (l.far to)).1 }, (l.write d (l.far to)).2)
  else ({ l with forced := l.far to, ends := l.ends.drop (lead to l.ends), sup := (l.write d (l.far to)).1 }, (l.write d (l.far to)).2.1, 0)
def Log.load (d : Dev) : List UInt8 := d.reads 386 1024
def logMake (d : Dev) : Option Log × Dev × Int :=
  if (d.secs.length : Int) < 1410 then (none, d, 3)
  else match supMake d 0 (logText 0 0) with
    | (none, d2, e) => (none, d2, e)
    | (some s, d2, _) => (some ⟨Log.load d2, 0, 0, 0, [], false, s⟩, d2, 0)

structure Log.ok (l : Log) : Prop where
  ring : l.ring.length = 65536
  order : l.base ≤ l.forced ∧ l.forced ≤ l.end_
  most : l.end_ ≤ 1152921504606846976
  ends : ∀ e ∈ l.ends, l.forced < e ∧ e ≤ l.end_
  sorted : l.ends.Pairwise (· < ·)
  room : l.end_ ≤ l.base + 65536

def logCells (pd ps : Value) (ring : List UInt8) (base forced end_ : Nat) (v : Value) (bad : Bool) : List Value :=
  pd :: ps :: (ring.flatMap encB ++ [.int .i64 base, .int .i64 forced, .int .i64 end_, v, .bool bad])
section
variable {pd ps v : Value} {ring : List UInt8} {base forced end_ : Nat} {bad : Bool} (h : ring.length = 65536)
include h
theorem logc_length : (logCells pd ps ring base forced end_ v bad).length = 65543 := by
  unfold logCells; simp only [List.length_cons, List.length_append, length_bytes, h, List.length_nil]
theorem logc_tail (j : Nat) : (logCells pd ps ring base forced end_ v bad)[65538 + j]? = [Value.int .i64 base, .int .i64 forced, .int .i64 end_, v, .bool bad][j]? := by
  unfold logCells
  rw [show 65538 + j = (65536 + j) + 1 + 1 by omega, List.getElem?_cons_succ, List.getElem?_cons_succ, List.getElem?_append_right (by rw [length_bytes, h]; omega), length_bytes, h, Nat.add_sub_cancel_left]
theorem logc_base : (logCells pd ps ring base forced end_ v bad)[65538]? = some (.int .i64 base) := logc_tail h 0
theorem logc_forced : (logCells pd ps ring base forced end_ v bad)[65539]? = some (.int .i64 forced) := logc_tail h 1
theorem logc_end : (logCells pd ps ring base forced end_ v bad)[65540]? = some (.int .i64 end_) := logc_tail h 2
theorem logc_ends : (logCells pd ps ring base forced end_ v bad)[65541]? = some v := logc_tail h 3
theorem logc_bad : (logCells pd ps ring base forced end_ v bad)[65542]? = some (.bool bad) := logc_tail h 4
theorem logc_split (j : Nat) (x : Value) : splice (logCells pd ps ring base forced end_ v bad) (65538 + j) [x] = pd :: ps :: (ring.flatMap encB ++ splice [Value.int .i64 base, .int .i64 forced, .int .i64 end_, v, .bool bad] j [x]) := by
  have hl : (pd :: ps :: ring.flatMap encB).length = 65538 := by simp only [List.length_cons, length_bytes, h]
  have e : logCells pd ps ring base forced end_ v bad = (pd :: ps :: ring.flatMap encB) ++ [.int .i64 base, .int .i64 forced, .int .i64 end_, v, .bool bad] := rfl
  rw [e]
  unfold splice
  rw [← hl, List.take_length_add_append, Nat.add_assoc, List.drop_length_add_append]
  simp
theorem logs_base (x : Nat) : splice (logCells pd ps ring base forced end_ v bad) 65538 [.int .i64 (x : Int)] = logCells pd ps ring x forced end_ v bad := logc_split h 0 _
theorem logs_forced (x : Nat) : splice (logCells pd ps ring base forced end_ v bad) 65539 [.int .i64 (x : Int)] = logCells pd ps ring base x end_ v bad := logc_split h 1 _
theorem logs_end (x : Nat) : splice (logCells pd ps ring base forced end_ v bad) 65540 [.int .i64 (x : Int)] = logCells pd ps ring base forced x v bad := logc_split h 2 _
theorem logs_ends (x : Value) : splice (logCells pd ps ring base forced end_ v bad) 65541 [x] = logCells pd ps ring base forced end_ x bad := logc_split h 3 _
theorem logs_bad (x : Bool) : splice (logCells pd ps ring base forced end_ v bad) 65542 [.bool x] = logCells pd ps ring base forced end_ v x := logc_split h 4 _
theorem logc_ring {i n : Nat} (hi : i + n ≤ 65536) : ((logCells pd ps ring base forced end_ v bad).drop (2 + i)).take n = ((ring.drop i).take n).flatMap encB := by
  unfold logCells
  rw [show 2 + i = (i + 1) + 1 by omega, List.drop_succ_cons, List.drop_succ_cons, List.drop_append_of_le_length (by rw [length_bytes, h]; omega), List.take_append_of_le_length (by rw [List.length_drop, length_bytes, h]; omega), take_bytes, drop_bytes]
theorem logs_ring {i : Nat} {b : List UInt8} (hi : i + b.length ≤ 65536) : splice (logCells pd ps ring base forced end_ v bad) (2 + i) (b.flatMap encB) = logCells pd ps (over ring i b) base forced end_ v bad := by
  have h2 := over_flat (enc := encB) (sz := 1) (xs := ring) (fun _ _ => rfl) (j := i) (ys := b) (fun _ _ => rfl)
  rw [Nat.mul_one] at h2
  unfold logCells
  rw [h2]
  unfold splice
  rw [length_bytes, show 2 + i = (i + 1) + 1 by omega, List.take_succ_cons, List.take_succ_cons, show i + 1 + 1 + b.length = (i + b.length + 1) + 1 by omega, List.drop_succ_cons, List.drop_succ_cons]
  rw [List.take_append_of_le_length (by rw [length_bytes, h]; omega), List.drop_append_of_le_length (by rw [length_bytes, h]; omega)]
  simp
theorem logs_byte {i : Nat} {c : UInt8} (hi : i < 65536) : splice (logCells pd ps ring base forced end_ v bad) (2 + i) [.int .u8 c.toNat] = logCells pd ps (ring.set i c) base forced end_ v bad := by
  rw [set_over (by omega)]
  exact logs_ring h (b := [c]) (by simp; omega)
end
theorem ringPut_length : ∀ (b ring : List UInt8) (at_ : Nat), (ringPut ring at_ b).length = ring.length := by
  intro b
  induction b with
  | nil => intro ring at_; rfl
  | cons c l ih => intro ring at_; rw [ringPut, ih, List.length_set]
theorem ringPut_snoc (c : UInt8) : ∀ (b ring : List UInt8) (at_ : Nat), ringPut ring at_ (b ++ [c]) = (ringPut ring at_ b).set ((at_ + b.length) % 65536) c := by
  intro b
  induction b with
  | nil => intro ring at_; rfl
  | cons x l ih => intro ring at_; rw [List.cons_append, ringPut, ih, ringPut, List.length_cons, show at_ + 1 + l.length = at_ + (l.length + 1) by omega]
/-- a log in memory -/
structure IsLog (tU tI tP tL : Nat) (p pd : Value) (l : Log) (H : Chunk) : Prop where
  ok : l.ok
  is : ∃ b ps v HS Ke, p = .pointer (some ⟨b, 0, none⟩) ∧ IsSup tU tP ps pd 0 l.sup HS ∧ Own encN 1 tI v l.ends Ke ∧ oneC v = true ∧
    H = [(b, blk (logCells pd ps l.ring l.base l.forced l.end_ v l.bad) tL (0, 0))] ++ (HS ++ Ke)
theorem IsLog.ptr {tU tI tP tL : Nat} {p pd : Value} {l : Log} {H : Chunk} (h : IsLog tU tI tP tL p pd l H) : ∃ b, p = .pointer (some ⟨b, 0, none⟩) := by
  obtain ⟨b, ps, v, HS, Ke, hp, _⟩ := h.is; exact ⟨b, hp⟩
theorem logText_length {a b : Nat} (ha : a ≤ 1152921504606846976) (hb : b ≤ 1152921504606846976) : (logText a b).length ≤ 20 := by
  have h1 := put_ten (n := (a : Int)) (by omega) (by omega)
  have h2 := put_ten (n := (b : Int)) (by omega) (by omega)
  unfold logText; rw [List.length_append]; omega
theorem lead_le (to : Int) : ∀ l : List Nat, lead to l ≤ l.length := by
  intro l
  induction l with
  | nil => exact Nat.le_refl _
  | cons e l ih => unfold lead; split
                   · simpa using ih
                   · simp
theorem lead_at {to : Int} : ∀ {l : List Nat} {i : Nat} {e : Nat}, i < lead to l → l[i]? = some e → (e : Int) ≤ to := by
  intro l
  induction l with
  | nil => intro i e h; simp [lead] at h
  | cons x l ih =>
    intro i e h he
    by_cases hx : (x : Int) ≤ to
    · have e1 : lead to (x :: l) = lead to l + 1 := by rw [lead, if_pos hx]
      rw [e1] at h
      cases i with
      | zero => simp at he; subst he; exact hx
      | succ i => exact ih (Nat.lt_of_succ_lt_succ h) (by simpa using he)
    · rw [lead, if_neg hx] at h; cases h
theorem lead_end {to : Int} : ∀ {l : List Nat} {e : Nat}, l[lead to l]? = some e → ¬ (e : Int) ≤ to := by
  intro l
  induction l with
  | nil => intro e h; simp [lead] at h
  | cons x l ih =>
    intro e h
    unfold lead at h
    split at h
    · exact ih (by simpa using h)
    · simp at h; subst h; assumption
/-! ### the noughts of a log -/
def isZ : Value → Bool
  | .int .u8 n => Int.decEq n 0 |>.decide
  | _ => false
def isPre (l : List Value) (n : Nat) : Option (List Value) :=
  Nat.rec (motive := fun _ => List Value → Option (List Value)) (fun l => some l) (fun _ ih l => match l with | [] => none | x :: xs => cond (isZ x) (ih xs) none) n l
theorem isZ_eq {v : Value} (h : isZ v = true) : v = .int .u8 0 := by
  unfold isZ at h
  split at h
  · rw [of_decide_eq_true h]
  · cases h
theorem isPre_eq : ∀ (n : Nat) {l r : List Value}, isPre l n = some r → l = (noughts n).flatMap encB ++ r := by
  intro n
  induction n with
  | zero =>
    intro l r h
    have h' : some l = some r := h
    simpa [noughts] using h'
  | succ n ih =>
    intro l r h
    cases l with
    | nil => simp [isPre] at h
    | cons x xs =>
      have h' : cond (isZ x) (isPre xs n) none = some r := h
      cases hx : isZ x with
      | false => rw [hx] at h'; cases h'
      | true =>
        rw [hx] at h'
        rw [isZ_eq hx, ih h']
        simp [noughts, List.replicate_succ, encB]
def logFields : List (Nat × Nat) := [(0, 1), (1, 1), (2, 65536), (65538, 1), (65539, 1), (65540, 1), (65541, 1), (65542, 1)]
theorem fill_log {z : List UInt8} (hz : z.length = 65536) (p q : Option Addr) : fillL logFields (logCells (.pointer none) (.pointer none) z 0 0 0 (.slice none 0 0) false) [(0, .pointer p), (1, .pointer q)] = some (logCells (.pointer p) (.pointer q) z 0 0 0 (.slice none 0 0) false) := by
  have hl : ∀ a b : Value, (logCells a b z 0 0 0 (.slice none 0 0) false).length = 65543 := fun a b => logc_length hz
  have e0 : ∀ a b x : Value, splice (logCells a b z 0 0 0 (.slice none 0 0) false) 0 [x] = logCells x b z 0 0 0 (.slice none 0 0) false := fun a b x => by simp [splice, logCells]
  have e1 : ∀ a b x : Value, splice (logCells a b z 0 0 0 (.slice none 0 0) false) 1 [x] = logCells a x z 0 0 0 (.slice none 0 0) false := fun a b x => by simp [splice, logCells]
  simp only [fillL, logFields, List.getElem?_cons_zero, List.getElem?_cons_succ, Value.cells, hl, e0, e1]
  rfl
theorem ringLoad_length {d : Dev} (hd : d.ok) (h : 1410 ≤ d.secs.length) : (Log.load d).length = 65536 := by
  unfold Log.load; rw [Dev.reads_length hd 1024 386 (by omega) (by omega)]
/-- the first k sectors of the ring are read -/
def loadTo (d : Dev) (k : Nat) (ring : List UInt8) : List UInt8 := d.reads 386 k ++ ring.drop (64 * k)
theorem loadTo_length {d : Dev} (hd : d.ok) (h : 1410 ≤ d.secs.length) {k : Nat} (hk : k ≤ 1024) {ring : List UInt8} (hr : ring.length = 65536) : (loadTo d k ring).length = 65536 := by
  unfold loadTo; rw [List.length_append, Dev.reads_length hd k 386 (by omega) (by omega), List.length_drop]; omega
theorem loadTo_step {d : Dev} (hd : d.ok) (h : 1410 ≤ d.secs.length) {k : Nat} (hk : k < 1024) {ring : List UInt8} (hr : ring.length = 65536) :
    over (loadTo d k ring) (64 * k) (d.sec (386 + (k : Nat))).now = loadTo d (k + 1) ring := by
  have hl := Dev.reads_length hd k 386 (by omega) (by omega)
  have hs := (Dev.sec_ok hd (i := 386 + (k : Nat)) (by unfold Dev.in; omega)).1
  unfold over loadTo
  rw [← hl, List.take_left, Dev.reads_snoc, List.drop_length_add_append, List.drop_drop, hs, hl, show 64 * (k + 1) = 64 * k + 64 by omega]
theorem loadTo_all {d : Dev} {ring : List UInt8} (hr : ring.length = 65536) : loadTo d 1024 ring = Log.load d := by
  unfold loadTo Log.load; rw [List.drop_eq_nil_of_le (by omega), List.append_nil]
theorem loadTo_zero {d : Dev} {ring : List UInt8} : loadTo d 0 ring = ring := by simp [loadTo, Dev.reads]
theorem sorted_length : ∀ {l : List Nat} {a b : Nat}, a ≤ b → l.Pairwise (· < ·) → (∀ e ∈ l, a < e ∧ e ≤ b) → l.length ≤ b - a := by
  intro l
  induction l with
  | nil => intro a b _ _ _; simp
  | cons x l ih =>
    intro a b hab hp h
    have hx := h x (by simp)
    have := ih (a := x) (b := b) hx.2 (List.pairwise_cons.1 hp).2 (fun e he => ⟨(List.pairwise_cons.1 hp).1 e he, (h e (by simp [he])).2⟩)
    simp only [List.length_cons]; omega
theorem Log.ok.few {l : Log} (h : l.ok) : l.ends.length ≤ 65536 := by
  have := sorted_length h.order.2 h.sorted h.ends
  have := h.room; have := h.order; omega
theorem perm3 {A B C : Chunk} {r : List Chunk} : ((A ++ (B ++ C)) :: r).flatten.Perm (A :: B :: C :: r).flatten := by simp
theorem supMake_none {d : Dev} {at_ : Int} {b : List UInt8} (h : (supMake d at_ b).2.2 ≠ 0) : (supMake d at_ b).1 = none := by
  unfold supMake at h ⊢
  split
  · rfl
  · split
    · rfl
    · split
      · rfl
      · split
        · rfl
        · rename_i h1 h2 h3 h4
          exfalso
          rw [if_neg h1, if_neg h2, if_neg h3, if_neg h4] at h
          exact h rfl
theorem supMake_some {d : Dev} {at_ : Int} {b : List UInt8} (h : (supMake d at_ b).2.2 = 0) (hb : b.length ≤ 40) : ∃ s, (supMake d at_ b).1 = some s := by
  unfold supMake at h ⊢
  rw [if_neg (by omega)] at h ⊢
  split
  · rename_i h1; rw [if_pos h1] at h; cases h
  · rename_i h1
    rw [if_neg h1] at h
    split
    · rename_i h2; rw [if_pos h2] at h; exact absurd h h2
    · rename_i h2
      rw [if_neg h2] at h
      split
      · rename_i h3; rw [if_pos h3] at h; exact absurd h h3
      · exact ⟨_, rfl⟩
theorem Dev.write_secs (d : Dev) (i : Int) (b : List UInt8) : (d.write i b).1.secs.length = d.secs.length := by
  unfold Dev.write; split
  · rfl
  · split
    · rfl
    · split
      · rfl
      · exact List.length_set
theorem Dev.flush_secs (d : Dev) : d.flush.1.secs.length = d.secs.length := by
  unfold Dev.flush; split
  · rfl
  · exact List.length_map _
theorem Dev.writes_secs : ∀ (l : List (List UInt8)) (d : Dev) (i : Int), (d.writes i l).1.secs.length = d.secs.length := by
  intro l
  induction l with
  | nil => intro d i; rfl
  | cons b l ih =>
    intro d i
    rw [Dev.writes]; split
    · exact Dev.write_secs d i b
    · rw [ih, Dev.write_secs]
theorem supWrite_secs (s : Sup) (d : Dev) (at_ slot : Int) (n : Nat) (b : List UInt8) : (supWrite s d at_ slot n b).2.1.secs.length = d.secs.length := by
  unfold supWrite; split
  · exact Dev.write_secs ..
  · split
    · rw [Dev.flush_secs, Dev.write_secs]
    · rw [Dev.flush_secs, Dev.write_secs]
theorem supMake_secs (d : Dev) (at_ : Int) (b : List UInt8) : (supMake d at_ b).2.1.secs.length = d.secs.length := by
  unfold supMake; split
  · rfl
  · split
    · rfl
    · split
      · exact Dev.writes_secs ..
      · split
        · rw [supWrite_secs, Dev.writes_secs]
        · rw [supWrite_secs, Dev.writes_secs]
theorem supWrite_turn {s : Sup} {d : Dev} {at_ slot : Int} {n : Nat} {b : List UInt8} {m : Nat} (hs : s.turn ≤ m) (hn : n ≤ m) : (supWrite s d at_ slot n b).1.turn ≤ m := by
  unfold supWrite; split
  · exact hs
  · split
    · exact hs
    · exact hn
theorem supMake_turn {d : Dev} {at_ : Int} {b : List UInt8} {s : Sup} (h : (supMake d at_ b).1 = some s) : s.turn ≤ 4611686018427387904 := by
  unfold supMake at h; split at h
  · cases h
  · split at h
    · cases h
    · split at h
      · cases h
      · split at h
        · cases h
        · rw [← Option.some.inj h]; exact supWrite_turn (by simp) (by omega)
def optLog (tU tI tP tL : Nat) (pd : Value) : Option Log → Value → Chunk → Prop
  | none, p, H => p = .pointer none ∧ H = []
  | some l, p, H => IsLog tU tI tP tL p pd l H
theorem Log.append_ok {l : Log} (h : l.ok) (hm : l.end_ ≤ 1152921504606000000) (b : List UInt8) : (l.append b).1.ok := by
  unfold Log.append
  split
  · exact h
  · split
    · exact h
    · split
      · exact h
      · rename_i h1 h2 h3
        have hf : l.fits b.length := Classical.byContradiction h3
        unfold Log.fits at hf
        have hor := h.order
        have hrm := h.room
        refine ⟨by simp only [Log.put, ringPut_length]; exact h.ring, ⟨hor.1, ?_⟩, ?_, ?_, ?_, ?_⟩
        · simp only [Log.put]; omega
        · simp only [Log.put, be_length]; omega
        · intro e he
          simp only [List.mem_append, List.mem_singleton] at he
          rcases he with he | rfl
          · have := h.ends e he; simp only [Log.put]; omega
          · simp only [Log.put, be_length]; omega
        · refine List.pairwise_append.2 ⟨h.sorted, by simp, fun a ha c hc => ?_⟩
          simp only [List.mem_singleton] at hc
          subst hc
          have := h.ends a ha
          simp only [Log.put, be_length]; omega
        · simp only [Log.put, be_length]; omega
theorem shrK {x k : Nat} (hk : k ≤ 7) : (x : Int).fdiv (2 ^ min ((8 * k : Nat) : Int).toNat IntKind.i64.bits) = ((x / 256 ^ k : Nat) : Int) := shr8 hk
/-- how far the first i of them reach -/
def Log.farAt (l : Log) (i : Nat) : Nat := if i = 0 then l.forced else l.ends.getD (i - 1) 0
theorem Log.farAt_succ {l : Log} {i e : Nat} (h : l.ends[i]? = some e) : l.farAt (i + 1) = e := by
  unfold Log.farAt; rw [if_neg (by omega), Nat.add_sub_cancel, List.getD_eq_getElem?_getD, h]; rfl
theorem Log.far_eq (l : Log) (to : Int) : l.far to = l.farAt (lead to l.ends) := rfl
theorem Log.farAt_range {l : Log} (h : l.ok) {i : Nat} (hi : i ≤ l.ends.length) : l.forced ≤ l.farAt i ∧ l.farAt i ≤ l.end_ := by
  unfold Log.farAt
  split
  · exact ⟨Nat.le_refl _, h.order.2⟩
  · rw [List.getD_eq_getElem?_getD, List.getElem?_eq_getElem (by omega)]
    have := h.ends _ (List.getElem_mem (l := l.ends) (n := i - 1) (by omega))
    simp only [Option.getD_some]; omega
theorem Log.drop_ok {l : Log} (h : l.ok) {i : Nat} (hi : i ≤ l.ends.length) (s : Sup) : Log.ok { l with forced := l.farAt i, ends := l.ends.drop i, sup := s } := by
  have hr := Log.farAt_range h hi
  refine ⟨h.ring, ⟨Nat.le_trans h.order.1 hr.1, hr.2⟩, h.most, ?_, h.sorted.sublist (List.drop_sublist _ _), h.room⟩
  intro e he
  refine ⟨?_, (h.ends e (List.mem_of_mem_drop he)).2⟩
  show l.farAt i < e
  unfold Log.farAt
  split
  · exact (h.ends e (List.mem_of_mem_drop he)).1
  · rename_i h0
    rw [List.getD_eq_getElem?_getD, List.getElem?_eq_getElem (by omega)]
    simp only [Option.getD_some]
    obtain ⟨j, hj, rfl⟩ := List.getElem_of_mem he
    rw [List.getElem_drop]
    rw [List.length_drop] at hj
    exact List.pairwise_iff_getElem.1 h.sorted _ _ _ _ (by omega)
theorem Log.bad_ok {l : Log} (h : l.ok) (s : Sup) : Log.ok { l with bad := true, sup := s } := ⟨h.ring, h.order, h.most, h.ends, h.sorted, h.room⟩
theorem secsTo_step {k to : Nat} (h : 64 * k < to) : secsTo k to = secsTo (k + 1) to + 1 := by unfold secsTo; omega
theorem secsTo_none {k to : Nat} (h : ¬ 64 * k < to) : secsTo k to = 0 := by unfold secsTo; omega
end Go.Pl
