/- Catalogs, in plain words: as the program goes through them, and as the document does. No program in sight. -/
import Derived.Test.YtpijialhhdpobaaPlA
namespace Go.Pl
open Go Go.Sx

structure Snap where
  name : ByteArray
  id : Int
  inv : Bool
  map : List Int
def encSnap (s : Snap) : List Value := .string s.name :: .int .i64 s.id :: .bool s.inv :: s.map.map (Value.int .i64)
theorem len_snap (s : Snap) : (encSnap s).length = s.map.length + 3 := by simp [encSnap]
theorem map32 {s : Snap} (h : (encSnap s).length = 35) : s.map.length = 32 := by rw [len_snap] at h; omega
theorem ones_snap (s : Snap) : ones (encSnap s) = true := by
  unfold ones encSnap
  simp [oneC]
theorem ones_snaps (l : List Snap) : ones (l.flatMap encSnap) = true := by
  unfold ones
  rw [List.all_eq_true]
  intro x hx
  obtain ⟨s, _, h⟩ := List.mem_flatMap.1 hx
  have := ones_snap s
  unfold ones at this
  exact List.all_eq_true.1 this x h
theorem snap_map {s : Snap} (h : (encSnap s).length = 35) : ((encSnap s).drop 3).take (32 * 1) = s.map.map (Value.int .i64) := by
  show (s.map.map (Value.int .i64)).take (32 * 1) = _
  rw [List.take_of_length_le (by rw [List.length_map, map32 h]; omega)]

theorem snap_at {s : Snap} {i : Nat} {x : Int} (h : s.map[i]? = some x) : (encSnap s)[0 + 3 + (i : Int).toNat * 1]? = some (.int .i64 x) := by
  have e : 0 + 3 + (i : Int).toNat * 1 = i + 3 := by omega
  rw [e]
  show (s.map.map (Value.int .i64))[i]? = _
  rw [List.getElem?_map, h]
  rfl

/-- where a thing stands; -1: nowhere -/
def findAt {α : Type} (p : α → Bool) : Nat → List α → Int
  | _, [] => -1
  | i, x :: l => if p x = true then (i : Int) else findAt p (i + 1) l
theorem findAt_nonneg {α : Type} (p : α → Bool) : ∀ (l : List α) (i : Nat), 0 ≤ findAt p i l ↔ ∃ x ∈ l, p x = true := by
  intro l
  induction l with
  | nil => intro i; simp [findAt]
  | cons x l ih =>
    intro i
    rw [findAt]
    split
    · rename_i h; simp [h]
    · rename_i h; rw [ih]; simp [h]
def named (nm : ByteArray) (s : Snap) : Bool := decide (s.name = nm)

/-! ### May: the program's, the document's -/
def mayIn (inv : Bool) : Nat → List Int → List Int → Option (List Int)
  | _, [], seen => some seen
  | no, at_ :: m, seen =>
    if at_ = 0 then mayIn inv (no + 1) m seen
    else if at_ < 32 ∨ 96 ≤ at_ ∨ no = 0 ∨ inv = true ∨ at_ ∈ seen then none
    else mayIn inv (no + 1) m (seen ++ [at_])
def mayOut (next : Int) (all : List Snap) : Nat → Int → List Int → List Snap → Bool
  | _, _, _, [] => true
  | i, last, seen, s :: l =>
    if nameB s.name = false ∨ 0 ≤ findAt (named s.name) 0 (all.take i) ∨ s.id ≤ last ∨ next < s.id then false
    else match mayIn s.inv 0 s.map seen with
      | none => false
      | some seen' => mayOut next all (i + 1) s.id seen' l
def mayB (next : Int) (l : List Snap) : Bool := if next < 0 ∨ 1099511627776 < next ∨ 4 < l.length then false else mayOut next l 0 0 [] l

def refIn (inv : Bool) : List Int → List Bool → Option (List Bool)
  | [], seen => some seen
  | n :: m, seen =>
    if n = 0 then refIn inv m seen
    else if n < 32 ∨ 95 < n ∨ seen[n.toNat]? = some true ∨ inv = true then none
    else refIn inv m (seen.set n.toNat true)
def refOut (next : Int) (all : List Snap) : Nat → List Bool → List Snap → Bool
  | _, _, [] => true
  | i, seen, s :: l =>
    if nameB s.name = false ∨ s.id < 1 ∨ next < s.id ∨ (0 < i ∧ ∃ p, all[i - 1]? = some p ∧ s.id ≤ p.id) ∨ s.map.head? ≠ some 0 then false
    else if (all.take i).any (named s.name) = true then false
    else match refIn s.inv (s.map.drop 1) seen with
      | none => false
      | some seen' => refOut next all (i + 1) seen' l
def refMay (next : Int) (l : List Snap) : Bool := if next < 0 ∨ 1099511627776 < next ∨ 4 < l.length then false else refOut next l 0 (List.replicate 96 false) l
end Go.Pl
