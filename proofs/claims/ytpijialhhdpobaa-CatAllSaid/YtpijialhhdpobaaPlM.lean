/- Who stands where; catalogs of names. No program in sight. -/
import Derived.Test.YtpijialhhdpobaaPlL
namespace Go.Pl
open Go Go.Sx
theorem findAt_none {α : Type} (p : α → Bool) : ∀ (l : List α) (i : Nat), (∀ x ∈ l, p x = false) → findAt p i l = -1 := by
  intro l
  induction l with
  | nil => intro i _; rfl
  | cons x l ih =>
    intro i h
    rw [findAt, if_neg (by rw [h x (by simp)]; decide)]
    exact ih _ fun y hy => h y (by simp [hy])
theorem findAt_neg {α : Type} {p : α → Bool} {l : List α} {i : Nat} (h : ¬ 0 ≤ findAt p i l) : ∀ x ∈ l, p x = false := by
  intro x hx
  cases hp : p x with
  | false => rfl
  | true => exact absurd ((findAt_nonneg p l i).2 ⟨x, hx, hp⟩) h
theorem findAt_snoc {α : Type} (p : α → Bool) (x : α) : ∀ (l : List α) (i : Nat), findAt p i (l ++ [x]) = if 0 ≤ findAt p i l then findAt p i l else if p x = true then ((i + l.length : Nat) : Int) else -1 := by
  intro l
  induction l with
  | nil =>
    intro i
    show (if p x = true then (i : Int) else -1) = if 0 ≤ (-1 : Int) then (-1 : Int) else if p x = true then ((i + 0 : Nat) : Int) else -1
    rw [if_neg (show ¬ (0 : Int) ≤ -1 by omega)]
    rfl
  | cons y l ih =>
    intro i
    show findAt p i (y :: (l ++ [x])) = _
    rw [findAt, findAt]
    by_cases h : p y = true
    · rw [if_pos h, if_pos h, if_pos (by omega)]
    · rw [if_neg h, if_neg h, ih]
      simp only [List.length_cons]
      rw [show i + 1 + l.length = i + (l.length + 1) by omega]
theorem findAt_cat {α : Type} (p : α → Bool) : ∀ (l r : List α) (i : Nat), (∀ x ∈ l, p x = false) → findAt p i (l ++ r) = findAt p (i + l.length) r := by
  intro l
  induction l with
  | nil => intro r i _; rfl
  | cons y l ih =>
    intro r i h
    show findAt p i (y :: (l ++ r)) = _
    rw [findAt, if_neg (by rw [h y (by simp)]; decide), ih _ _ fun x hx => h x (by simp [hx])]
    simp only [List.length_cons]
    rw [show i + 1 + l.length = i + (l.length + 1) by omega]
theorem findAt_at {α : Type} {p : α → Bool} {l : List α} {k : Nat} {x : α} (hx : l[k]? = some x) (hp : p x = true) (h : ∀ y ∈ l.take k, p y = false) : findAt p 0 l = k := by
  have hk : k < l.length := (List.getElem?_eq_some_iff.1 hx).1
  have e : l = l.take k ++ (x :: l.drop (k + 1)) := by rw [← drop_cons hx, List.take_append_drop]
  rw [e, findAt_cat _ _ _ _ h, findAt, if_pos hp, List.length_take]
  omega
theorem findAt_map {α β : Type} (f : α → β) (p : β → Bool) : ∀ (l : List α) (i : Nat), findAt p i (l.map f) = findAt (fun x => p (f x)) i l := by
  intro l
  induction l with
  | nil => intro i; rfl
  | cons x l ih => intro i; rw [List.map_cons, findAt, findAt, ih]
theorem mayOut_names {next : Int} {all : List Snap} : ∀ (l : List Snap) (i : Nat) (last : Int) (a : List Int), all.drop i = l → mayOut next all i last a l = true → ∀ k s, i ≤ k → all[k]? = some s → ¬ 0 ≤ findAt (named s.name) 0 (all.take k) := by
  intro l
  induction l with
  | nil =>
    intro i last a hd _ k s hk hs
    have := (List.getElem?_eq_some_iff.1 hs).1
    have hlen : (all.drop i).length = 0 := by rw [hd]; rfl
    rw [List.length_drop] at hlen
    omega
  | cons t l ih =>
    intro i last a hd h k s hk hs
    have hat : all[i]? = some t := by
      have := congrArg (·[0]?) hd
      simpa using this
    have hd1 : all.drop (i + 1) = l := by
      have := congrArg (List.drop 1) hd
      simpa using this
    rw [mayOut] at h
    split at h
    · cases h
    · rename_i hc
      split at h
      · cases h
      · by_cases e : k = i
        · subst e
          rw [hat] at hs
          obtain rfl := Option.some.inj hs
          intro hf
          exact hc (.inr (.inl hf))
        · exact ih _ _ _ hd1 h k s (by omega) hs
theorem may_names {next : Int} {l : List Snap} (h : mayB next l = true) {k : Nat} {s : Snap} (hs : l[k]? = some s) : ¬ 0 ≤ findAt (named s.name) 0 (l.take k) := by
  unfold mayB at h
  split at h
  · cases h
  · exact mayOut_names l 0 0 [] rfl h k s (by omega) hs
/-- one more looked at: it is the one, or is not -/
theorem find_step {next : Int} {l : List Snap} (h : mayB next l = true) {k : Nat} {s : Snap} (hs : l[k]? = some s) (nm : ByteArray) :
    findAt (named nm) 0 (l.take (k + 1)) = if s.name = nm then (k : Int) else findAt (named nm) 0 (l.take k) := by
  have hk : k < l.length := (List.getElem?_eq_some_iff.1 hs).1
  rw [take_succ hs, findAt_snoc]
  by_cases e : s.name = nm
  · subst e
    rw [if_pos rfl, if_neg (may_names h hs), if_pos (by unfold named; simp), List.length_take]
    omega
  · rw [if_neg e]
    by_cases h0 : 0 ≤ findAt (named nm) 0 (l.take k)
    · rw [if_pos h0]
    · rw [if_neg h0, if_neg (by unfold named; simpa using e)]
      exact (findAt_none _ _ _ (findAt_neg h0)).symm

/-! ### catalogs of names -/
structure Shot (n : Int) (L : List Snap) : Prop where
  pw : L.Pairwise fun a b => a.id < b.id ∧ a.name ≠ b.name
  each : ∀ s ∈ L, 1 ≤ s.id ∧ s.id ≤ n ∧ nameB s.name = true ∧ s.map = List.replicate 32 0
theorem mayIn_zero (inv : Bool) (seen : List Int) : ∀ k no : Nat, mayIn inv no (List.replicate k 0) seen = some seen := by
  intro k
  induction k with
  | zero => intro no; rfl
  | succ k ih => intro no; rw [List.replicate_succ, mayIn, if_pos rfl]; exact ih _
theorem shot_out {n : Int} {all : List Snap} (h : Shot n all) : ∀ (l pre : List Snap) (last : Int), all = pre ++ l → (∀ s ∈ l, last < s.id) → mayOut n all pre.length last [] l = true := by
  intro l
  induction l with
  | nil => intro pre last _ _; rfl
  | cons s l ih =>
    intro pre last e hlast
    have hs : s ∈ all := by rw [e]; simp
    obtain ⟨h1, h2, h3, h4⟩ := h.each s hs
    have hpw := h.pw
    rw [e, List.pairwise_append] at hpw
    obtain ⟨_, hpw2, hpw3⟩ := hpw
    rw [List.pairwise_cons] at hpw2
    have htake : all.take pre.length = pre := by rw [e, List.take_left]
    have hf : ¬ 0 ≤ findAt (named s.name) 0 (all.take pre.length) := by
      rw [htake, findAt_nonneg]
      rintro ⟨x, hx, hx2⟩
      unfold named at hx2
      exact (hpw3 x hx s (by simp)).2 (by simpa using hx2)
    rw [mayOut, if_neg]
    · rw [h4, mayIn_zero]
      have := ih (pre ++ [s]) s.id (by rw [e]; simp) fun t ht => (hpw2.1 t ht).1
      rw [List.length_append] at this
      exact this
    · rintro (hh | hh | hh | hh)
      · rw [h3] at hh; cases hh
      · exact hf hh
      · have := hlast s (by simp); omega
      · omega
theorem shot_may {n : Int} {L : List Snap} (h : Shot n L) (h0 : 0 ≤ n) (h1 : n ≤ 1099511627776) (hl : L.length ≤ 4) : mayB n L = true := by
  unfold mayB
  rw [if_neg (by omega)]
  exact shot_out h L [] 0 rfl fun s hs => by have := (h.each s hs).1; omega
theorem shot_35 {n : Int} {L : List Snap} (h : Shot n L) : ∀ s ∈ L, (encSnap s).length = 35 := by
  intro s hs
  rw [len_snap, (h.each s hs).2.2.2]
  rfl
theorem shot_nil : Shot 0 [] := ⟨List.Pairwise.nil, by simp⟩
theorem shot_drop {n : Int} {L : List Snap} (h : Shot n L) (j : Nat) : Shot n (L.take j ++ L.drop (j + 1)) := by
  rw [← List.eraseIdx_eq_take_drop_succ]
  have hs := List.eraseIdx_sublist L j
  exact ⟨h.pw.sublist hs, fun s hm => h.each s (hs.subset hm)⟩
theorem shot_add {n : Int} {L : List Snap} (h : Shot n L) (h0 : 0 ≤ n) {nm : ByteArray} (hn : nameB nm = true) (hf : ¬ 0 ≤ findAt (named nm) 0 L) : Shot (n + 1) (L ++ [newSnap nm (n + 1)]) := by
  refine ⟨?_, ?_⟩
  · rw [List.pairwise_append]
    refine ⟨h.pw, by simp, ?_⟩
    intro a ha b hb
    rw [List.mem_singleton] at hb
    subst hb
    have h1 := (h.each a ha).2.1
    have h2 := findAt_neg hf a ha
    unfold named at h2
    refine ⟨by show a.id < n + 1; omega, by simpa [newSnap] using h2⟩
  · intro s hs
    rcases List.mem_append.1 hs with hs | hs
    · have := h.each s hs
      exact ⟨this.1, by omega, this.2.2⟩
    · rw [List.mem_singleton] at hs
      subst hs
      exact ⟨by show (1 : Int) ≤ n + 1; omega, by show n + 1 ≤ n + 1; omega, hn, rfl⟩
/-- who has which name, seen from the names alone -/
def isNm (nm : ByteArray) (x : ByteArray) : Bool := decide (x = nm)
def names (L : List Snap) : List ByteArray := L.map Snap.name
theorem names_find (nm : ByteArray) (L : List Snap) (i : Nat) : findAt (isNm nm) i (names L) = findAt (named nm) i L := by
  unfold names
  rw [findAt_map]
  rfl
theorem shot_step {n : Int} {L : List Snap} (h : Shot n L) (h0 : 0 ≤ n) (h1 : n ≤ 1099511627776) (hl : L.length ≤ 4) {k : Nat} {x : ByteArray} (hx : (names L)[k]? = some x) (nm : ByteArray) :
    findAt (named nm) 0 (L.take (k + 1)) = if x = nm then (k : Int) else findAt (named nm) 0 (L.take k) := by
  unfold names at hx
  rw [List.getElem?_map, Option.map_eq_some_iff] at hx
  obtain ⟨s, hs, rfl⟩ := hx
  exact find_step (shot_may h h0 h1 hl) hs nm
theorem shot_self {n : Int} {L : List Snap} (h : Shot n L) (h0 : 0 ≤ n) (h1 : n ≤ 1099511627776) (hl : L.length ≤ 4) {k : Nat} {s : Snap} (hs : L[k]? = some s) : findAt (named s.name) 0 L = k :=
  findAt_at hs (by unfold named; simp) (findAt_neg (may_names (shot_may h h0 h1 hl) hs))
theorem names_length (L : List Snap) : (names L).length = L.length := by unfold names; simp
theorem names_cut (L : List Snap) (j : Nat) : (names L).take j ++ (names L).drop (j + 1) = names (L.take j ++ L.drop (j + 1)) := by
  unfold names; rw [List.map_append, List.map_take, List.map_drop]
theorem names_snoc (L : List Snap) (nm : ByteArray) (n : Int) : names L ++ [nm] = names (L ++ [newSnap nm n]) := by
  unfold names; rw [List.map_append]; rfl
theorem names_at {L : List Snap} {k : Nat} {s : Snap} (h : L[k]? = some s) : (names L)[k]? = some s.name := by
  unfold names; rw [List.getElem?_map, h]; rfl
theorem enc_err {n : Int} {l : List Snap} {b : Bool} (h : mayB n l = b) : (encode n l).2 = if b = true then 0 else 1 := by
  unfold encode
  rw [h]
  cases b <;> rfl
theorem enc_page {n : Int} {l : List Snap} (h : mayB n l = true) : (encode n l).1 = page (catBytes n l) := by
  unfold encode
  rw [if_pos h]
theorem take_eq {n : Int} {l : List Snap} (h : mayB n l = true) : takeR l = takeP l := by
  unfold takeR takeP
  rw [copies_eq (may_range h)]
end Go.Pl
