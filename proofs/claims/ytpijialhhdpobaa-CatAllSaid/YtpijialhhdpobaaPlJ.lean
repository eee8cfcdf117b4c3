/- Side pages taken one by one, worked out. No program in sight. -/
import Derived.Test.YtpijialhhdpobaaPlI
namespace Go.Pl
open Go Go.Sx
/-- the four that stand first -/
def four : List Snap := [newSnap ⟨#[97]⟩ 1, newSnap ⟨#[98]⟩ 2, newSnap ⟨#[99]⟩ 3, newSnap ⟨#[100]⟩ 4]
theorem addT : ∀ i : Nat, i < 4 → addC i (four.take i) (txt [b8 (97 + (i : Int))]) = ((((i + 1 : Nat) : Int), four.take (i + 1)), 0)
  | 0, _ => by kernel_rfl
  | 1, _ => by kernel_rfl
  | 2, _ => by kernel_rfl
  | 3, _ => by kernel_rfl
  | i + 4, h => absurd h (by omega)
def setMap (s : Snap) (j : Nat) (x : Int) : Snap := { s with map := s.map.set j x }
/-- behind m takes -/
def st : Nat → List Snap
  | 0 => four
  | m + 1 => if m < 64 then (st m).set (m % 4) (setMap ((st m)[m % 4]?.getD zeroSnap) (1 + m / 4) (32 + m)) else st m
def upto (m : Nat) : List Int := (List.range m).map fun (k : Nat) => 32 + (k : Int)
theorem st_len : ∀ m, (st m).length = 4
  | 0 => rfl
  | m + 1 => by rw [st]; split <;> simp [st_len m]
theorem st_35 : ∀ m, ∀ s ∈ st m, (encSnap s).length = 35
  | 0 => by intro s hs; simp only [st, four, List.mem_cons, List.not_mem_nil, or_false] at hs; rcases hs with rfl | rfl | rfl | rfl <;> rfl
  | m + 1 => by
    rw [st]
    split
    · intro s hs
      rcases List.mem_or_eq_of_mem_set hs with hs | rfl
      · exact st_35 m s hs
      · rw [len_snap]
        unfold setMap
        have hl := st_len m
        obtain ⟨x, hx⟩ := nth (l := st m) (i := m % 4) (by omega)
        rw [hx]
        have := st_35 m x (List.mem_of_getElem? hx)
        rw [len_snap] at this
        simpa using this
    · exact st_35 m
theorem perms : ∀ m : Fin 65, (gather (st m.val)).isPerm (upto m.val) = true := by decide +kernel
theorem mays : ∀ m : Fin 65, mayB 4 (st m.val) = true := by decide +kernel
theorem st_big : ∀ m, 64 ≤ m → st m = st 64 := by
  intro m h
  induction m with
  | zero => omega
  | succ m ih =>
    by_cases e : m + 1 = 64
    · rw [e]
    · rw [st, if_neg (by omega)]; exact ih (by omega)
theorem copT (m : Nat) : copiesP (st m) = upto (min m 64) := by
  have hp : ∀ k : Nat, k ≤ 64 → copiesP (st k) = upto k := by
    intro k hk
    have h1 := List.isPerm_iff.1 (perms ⟨k, by omega⟩)
    have hp1 : (copiesP (st k)).Perm (gather (st k)) := List.mergeSort_perm _ _
    have hs1 : (copiesP (st k)).Pairwise fun a b => decide (a ≤ b) = true :=
      List.pairwise_mergeSort (fun a b c h1 h2 => by simp only [decide_eq_true_eq] at *; omega) (fun a b => by simp only [Bool.or_eq_true, decide_eq_true_eq]; omega) _
    have hs2 : (upto k).Pairwise fun a b => decide (a ≤ b) = true := by
      unfold upto
      rw [List.pairwise_map]
      exact List.Pairwise.imp (fun h => by simp only [decide_eq_true_eq]; omega) List.pairwise_lt_range
    exact List.Perm.eq_of_pairwise (fun a b _ _ h1 h2 => by simp only [decide_eq_true_eq] at *; omega) hs1 hs2 (hp1.trans h1)
  by_cases h : m ≤ 64
  · rw [hp m h, Nat.min_eq_left h]
  · rw [st_big m (by omega), hp 64 (Nat.le_refl _), Nat.min_eq_right (by omega)]
theorem mem_upto {m : Nat} {x : Int} : x ∈ upto m ↔ 32 ≤ x ∧ x < 32 + m := by
  unfold upto
  simp only [List.mem_map, List.mem_range]
  constructor
  · rintro ⟨k, hk, rfl⟩; omega
  · rintro ⟨h1, h2⟩; exact ⟨(x - 32).toNat, by omega, by omega⟩
theorem free_upto : ∀ (k : Nat) (j m : Nat), j ≤ m → freeAt k (32 + (j : Int)) (upto m) = if m < j + k then (32 + (m : Int), true) else (0, false) := by
  intro k
  induction k with
  | zero => intro j m h; rw [freeAt, if_neg (by omega)]
  | succ k ih =>
    intro j m h
    rw [freeAt]
    by_cases e : j = m
    · subst e
      rw [if_neg (by rw [mem_upto]; omega), if_pos (by omega)]
    · rw [if_pos (mem_upto.2 ⟨by omega, by omega⟩), show (32 : Int) + j + 1 = 32 + ((j + 1 : Nat) : Int) by omega, ih (j + 1) m (by omega)]
      by_cases h2 : m < j + (k + 1)
      · rw [if_pos h2, if_pos (by omega)]
      · rw [if_neg h2, if_neg (by omega)]
theorem takeT (m : Nat) : takeP (st m) = (if m < 64 then 32 + (m : Int) else 0, decide (m < 64)) := by
  unfold takeP
  rw [copT]
  have := free_upto 64 0 (min m 64) (by omega)
  rw [show (32 : Int) + ((0 : Nat) : Int) = 32 by omega] at this
  rw [this]
  by_cases h : m < 64
  · rw [if_pos (by omega), if_pos h, decide_eq_true h, Nat.min_eq_left (by omega)]
  · rw [if_neg (by omega), if_neg h, decide_eq_false h]
theorem mayT (m : Nat) : mayB 4 (st m) = true := by
  by_cases h : m ≤ 64
  · exact mays ⟨m, by omega⟩
  · rw [st_big m (by omega)]; exact mays ⟨64, by omega⟩
theorem st_set {m : Nat} (h : m < 64) {s : Snap} (hs : (st m)[m % 4]? = some s) : st (m + 1) = (st m).set (m % 4) (setMap s (1 + m / 4) (32 + m)) := by
  rw [st, if_pos h, hs]; rfl
theorem setMap_splice {s : Snap} (h : (encSnap s).length = 35) {j : Nat} (hj : j < 32) (x : Int) : splice (encSnap s) (3 + j) [.int .i64 x] = encSnap (setMap s j x) := by
  have h32 := map32 h
  have := snap_set (s := s) (no := j) (x := x) (by omega)
  rw [show 0 + 3 + ((j : Int)).toNat * 1 = 3 + j by omega] at this
  exact this
theorem dec64 (m : Nat) : (!(decide (m < 64) == decide ((m : Int) < 64))) = false := by
  have : ((m : Int) < 64) ↔ m < 64 := by omega
  simp [this]
theorem upto_length (m : Nat) : (upto m).length = m := by unfold upto; simp
theorem upto_at {m k : Nat} (h : k < m) : (upto m)[k]? = some (32 + (k : Int)) := by
  unfold upto
  rw [List.getElem?_map, List.getElem?_range h]
  rfl
theorem tmod4 (m : Nat) : (m : Int).tmod 4 = ((m % 4 : Nat) : Int) := by rw [Int.tmod_eq_emod_of_nonneg (by omega)]; omega
theorem tdiv4 (m : Nat) : (m : Int).tdiv 4 = ((m / 4 : Nat) : Int) := by rw [Int.tdiv_eq_ediv_of_nonneg (by omega)]; omega
end Go.Pl
