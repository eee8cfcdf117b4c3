/- Snapshots that come and go, in plain words. No program in sight. -/
import Derived.Test.YtpijialhhdpobaaPlD
namespace Go.Pl
open Go Go.Sx
def newSnap (nm : ByteArray) (id : Int) : Snap := ⟨nm, id, false, List.replicate 32 0⟩
theorem len_newSnap (nm : ByteArray) (id : Int) : (encSnap (newSnap nm id)).length = 35 := rfl
/-- Add: the catalog, the error -/
def addC (next : Int) (l : List Snap) (nm : ByteArray) : (Int × List Snap) × Int :=
  if nameB nm = false then ((0, []), 1) else if 0 ≤ findAt (named nm) 0 l then ((0, []), 7)
  else if 4 ≤ l.length ∨ 1099511627776 ≤ next then ((0, []), 4) else ((next + 1, l ++ [newSnap nm (next + 1)]), 0)
def dropC (next : Int) (l : List Snap) (nm : ByteArray) : (Int × List Snap) × Int :=
  if findAt (named nm) 0 l < 0 then ((0, []), 6) else ((next, l.take (findAt (named nm) 0 l).toNat ++ l.drop ((findAt (named nm) 0 l).toNat + 1)), 0)
theorem findAt_lt {α : Type} (p : α → Bool) : ∀ (l : List α) (i : Nat), findAt p i l < (i : Int) + l.length ∧ (findAt p i l = -1 ∨ (i : Int) ≤ findAt p i l) := by
  intro l
  induction l with
  | nil =>
    intro i
    refine ⟨?_, .inl rfl⟩
    show (-1 : Int) < (i : Int) + ((0 : Nat) : Int)
    omega
  | cons x l ih =>
    intro i
    rw [findAt]
    split
    · simp only [List.length_cons]; omega
    · have := ih (i + 1)
      simp only [List.length_cons]
      omega
end Go.Pl
