/- Side pages: which are taken, which one is free, in plain words. No program in sight. -/
import Derived.Test.YtpijialhhdpobaaPlF
namespace Go.Pl
open Go Go.Sx
def not0 (m : List Int) : List Int := m.filter fun x => decide (x ≠ 0)
def gather (xs : List Snap) : List Int := xs.flatMap fun s => not0 s.map
def copiesP (xs : List Snap) : List Int := (gather xs).mergeSort fun x y => decide (x ≤ y)
def same (n : Int) (m : List Int) : List Int := m.filter fun x => decide (x = n)
def sameIn (n : Int) (xs : List Snap) : List Int := xs.flatMap fun s => same n s.map
def copiesTo (k : Nat) (xs : List Snap) : List Int := (List.range k).flatMap fun (j : Nat) => sameIn ((j : Int) + 1) xs
def copiesR (xs : List Snap) : List Int := copiesTo 255 xs
def freeAt : Nat → Int → List Int → Int × Bool
  | 0, _, _ => (0, false)
  | k + 1, n, l => if n ∈ l then freeAt k (n + 1) l else (n, true)
def takeP (xs : List Snap) : Int × Bool := freeAt 64 32 (copiesP xs)
def takeR (xs : List Snap) : Int × Bool := freeAt 64 32 (copiesR xs)

theorem filter_take_succ {α : Type} (p : α → Bool) {l : List α} {i : Nat} {x : α} (h : l[i]? = some x) : (l.take (i + 1)).filter p = (l.take i).filter p ++ if p x = true then [x] else [] := by
  rw [take_succ h, List.filter_append]
  congr 1
  rw [List.filter_cons, List.filter_nil]
theorem not0_length (m : List Int) : (not0 m).length ≤ m.length := List.length_filter_le _ _
theorem same_length (n : Int) (m : List Int) : (same n m).length ≤ m.length := List.length_filter_le _ _
theorem gather_length {xs : List Snap} (h : ∀ s ∈ xs, (encSnap s).length = 35) : (gather xs).length ≤ xs.length * 32 :=
  flatMap_length_le _ 32 _ fun s hs => by have := not0_length s.map; have := map32 (h s hs); omega
theorem sameIn_length {n : Int} {xs : List Snap} (h : ∀ s ∈ xs, (encSnap s).length = 35) : (sameIn n xs).length ≤ xs.length * 32 :=
  flatMap_length_le _ 32 _ fun s hs => by have := same_length n s.map; have := map32 (h s hs); omega
theorem copiesTo_length {k : Nat} {xs : List Snap} (h : ∀ s ∈ xs, (encSnap s).length = 35) : (copiesTo k xs).length ≤ k * (xs.length * 32) := by
  have := flatMap_length_le (fun j : Nat => sameIn ((j : Int) + 1) xs) (xs.length * 32) (List.range k) fun j _ => sameIn_length h
  rw [List.length_range] at this
  exact this
theorem copiesTo_succ (k : Nat) (xs : List Snap) : copiesTo (k + 1) xs = copiesTo k xs ++ sameIn ((k : Int) + 1) xs := by
  unfold copiesTo
  rw [List.range_succ, List.flatMap_append]
  simp
/-- both hold the same -/
theorem copies_eq {xs : List Snap} (h : ∀ s ∈ xs, ∀ x ∈ s.map, x = 0 ∨ (1 ≤ x ∧ x ≤ 255)) : copiesP xs = copiesR xs := by
  have hmem : ∀ x ∈ copiesR xs, True := fun _ _ => trivial
  have hp1 : (copiesP xs).Perm (gather xs) := List.mergeSort_perm _ _
  have hs1 : (copiesP xs).Pairwise fun a b => decide (a ≤ b) = true :=
    List.pairwise_mergeSort (fun a b c h1 h2 => by simp only [decide_eq_true_eq] at *; omega) (fun a b => by simp only [Bool.or_eq_true, decide_eq_true_eq]; omega) _
  have hval : ∀ n : Int, ∀ y ∈ sameIn n xs, y = n := by
    intro n y hy
    obtain ⟨s, _, hy⟩ := List.mem_flatMap.1 hy
    have := (List.mem_filter.1 hy).2
    simpa using this
  have hs2 : (copiesR xs).Pairwise fun a b => decide (a ≤ b) = true := by
    unfold copiesR copiesTo
    rw [List.pairwise_flatMap]
    constructor
    · intro j _
      rw [List.pairwise_iff_forall_sublist]
      intro a b hab
      have ha := hval _ a (hab.subset (by simp))
      have hb := hval _ b (hab.subset (by simp))
      simp only [decide_eq_true_eq]; omega
    · refine List.Pairwise.imp ?_ List.pairwise_lt_range
      intro i j hij x hx y hy
      have hx := hval _ x hx
      have hy := hval _ y hy
      simp only [decide_eq_true_eq]; omega
  have hcnt : ∀ a : Int, (gather xs).count a = (copiesR xs).count a := by
    intro a
    have h1 : ∀ n : Int, (sameIn n xs).count a = if a = n then (xs.flatMap Snap.map).count a else 0 := by
      intro n
      split
      · rename_i e
        subst e
        unfold sameIn
        rw [List.count_flatMap, List.count_flatMap]
        congr 1
        apply List.map_congr_left
        intro s _
        show List.count a (same a s.map) = List.count a s.map
        unfold same
        rw [List.count_filter (by simp)]
      · rename_i e
        exact List.count_eq_zero.2 fun hm => e (hval n a hm)
    have h2 : ∀ k : Nat, (copiesTo k xs).count a = if 1 ≤ a ∧ a ≤ k then (xs.flatMap Snap.map).count a else 0 := by
      intro k
      induction k with
      | zero => unfold copiesTo; rw [if_neg (by omega)]; simp
      | succ k ih =>
        rw [copiesTo_succ, List.count_append, ih, h1]
        by_cases e : a = (k : Int) + 1
        · rw [if_neg (by omega), if_pos e, if_pos (by omega)]; omega
        · rw [if_neg e]
          by_cases e2 : 1 ≤ a ∧ a ≤ (k : Int)
          · rw [if_pos e2, if_pos (by omega)]; rfl
          · rw [if_neg e2, if_neg (by omega)]
    have h3 : (gather xs).count a = if a = 0 then 0 else (xs.flatMap Snap.map).count a := by
      unfold gather
      split
      · rename_i e
        refine List.count_eq_zero.2 fun hm => ?_
        obtain ⟨s, _, hy⟩ := List.mem_flatMap.1 hm
        have := (List.mem_filter.1 hy).2
        simp at this
        exact this e
      · rename_i e
        rw [List.count_flatMap, List.count_flatMap]
        congr 1
        apply List.map_congr_left
        intro s _
        show List.count a (not0 s.map) = List.count a s.map
        unfold not0
        rw [List.count_filter (by simpa using e)]
    rw [h3]
    unfold copiesR
    rw [h2]
    by_cases e : a = 0
    · rw [if_pos e, if_neg (by omega)]
    · rw [if_neg e]
      by_cases e2 : 1 ≤ a ∧ a ≤ ((255 : Nat) : Int)
      · rw [if_pos e2]
      · rw [if_neg e2]
        refine List.count_eq_zero.2 fun hm => ?_
        obtain ⟨s, hs, hy⟩ := List.mem_flatMap.1 hm
        have := h s hs a hy
        omega
  exact List.Perm.eq_of_pairwise (fun a b _ _ h1 h2 => by simp only [decide_eq_true_eq] at *; omega) hs1 hs2 (hp1.trans (List.perm_iff_count.2 hcnt))
/-- what may be has its copies between -/
theorem mayIn_range {inv : Bool} : ∀ (m : List Int) (no : Nat) (a a' : List Int), mayIn inv no m a = some a' → ∀ x ∈ m, x = 0 ∨ (1 ≤ x ∧ x ≤ 255) := by
  intro m
  induction m with
  | nil => intro no a a' _ x hx; cases hx
  | cons y m ih =>
    intro no a a' h x hx
    rw [mayIn] at h
    split at h
    · rename_i h0
      rcases List.mem_cons.1 hx with rfl | hx
      · exact .inl h0
      · exact ih _ _ _ h x hx
    · split at h
      · cases h
      · rename_i hc
        rcases List.mem_cons.1 hx with rfl | hx
        · have h1 : 32 ≤ x := Int.not_lt.1 fun hh => hc (.inl hh)
          have h2 : x < 96 := Int.not_le.1 fun hh => hc (.inr (.inl hh))
          exact .inr (by omega)
        · exact ih _ _ _ h x hx
theorem mayOut_range {next : Int} {all : List Snap} : ∀ (l : List Snap) (i : Nat) (last : Int) (a : List Int), mayOut next all i last a l = true → ∀ s ∈ l, ∀ x ∈ s.map, x = 0 ∨ (1 ≤ x ∧ x ≤ 255) := by
  intro l
  induction l with
  | nil => intro i last a _ s hs; cases hs
  | cons t l ih =>
    intro i last a h s hs
    rw [mayOut] at h
    split at h
    · cases h
    · split at h
      · cases h
      · rename_i a' ha'
        rcases List.mem_cons.1 hs with rfl | hs
        · exact mayIn_range _ _ _ _ ha'
        · exact ih _ _ _ h s hs
theorem may_range {next : Int} {l : List Snap} (h : mayB next l = true) : ∀ s ∈ l, ∀ x ∈ s.map, x = 0 ∨ (1 ≤ x ∧ x ≤ 255) := by
  unfold mayB at h
  split at h
  · cases h
  · exact mayOut_range _ _ _ _ h
end Go.Pl
