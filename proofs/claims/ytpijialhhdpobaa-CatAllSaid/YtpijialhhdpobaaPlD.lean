/- Catalogs read back, in plain words. No program in sight. -/
import Derived.Test.YtpijialhhdpobaaPlC
namespace Go.Pl
open Go Go.Sx

def zeroSnap : Snap := ⟨⟨#[]⟩, 0, false, List.replicate 32 0⟩
theorem len_zeroSnap : (encSnap zeroSnap).length = 35 := rfl
def mapOf (l : List UInt8) : List Int := 0 :: (l.take 31).map fun c => (c.toNat : Int)
def oneS (l : List UInt8) : Snap × Int :=
  match getText l with
  | (name, at_, e) => if e ≠ 0 then (zeroSnap, 0) else
    match get (l.drop at_.toNat) with
    | (id, n, e2) => if e2 ≠ 0 ∨ (l.length : Int) - (at_ + n) < 32 then (zeroSnap, 0)
      else (⟨name, id, decide (l[(at_ + n).toNat]? = some 1), mapOf (l.drop ((at_ + n).toNat + 1))⟩, at_ + n + 32)

theorem getText_k {l : List UInt8} (h : (getText l).2.2 = 0) : 0 < (getText l).2.1 ∧ (getText l).2.1 ≤ l.length := by
  have hk := @get_k l
  unfold getText at h ⊢
  generalize get l = p at *
  obtain ⟨n, k, e⟩ := p
  dsimp only at *
  by_cases h1 : e ≠ 0
  · rw [if_pos h1] at h
    exact (h1 h).elim
  · rw [if_neg h1] at h ⊢
    have hk := hk (by omega)
    by_cases h2 : n < 0 ∨ 65536 < n
    · rw [if_pos h2] at h; simp at h
    · rw [if_neg h2] at h ⊢
      by_cases h3 : (l.length : Int) - k < n
      · rw [if_pos h3] at h; simp at h
      · rw [if_neg h3]
        dsimp only
        omega
theorem mapOf_length {l : List UInt8} (h : 31 ≤ l.length) : (mapOf l).length = 32 := by unfold mapOf; simp; omega
theorem oneS_len (l : List UInt8) : (encSnap (oneS l).1).length = 35 := by
  unfold oneS
  have hk := @getText_k l
  generalize getText l = p at *
  obtain ⟨name, at_, e⟩ := p
  dsimp only at *
  split
  · rfl
  · rename_i he
    have hk := hk (by omega)
    have hk2 := @get_k (l.drop at_.toNat)
    generalize get (l.drop at_.toNat) = q at *
    obtain ⟨id, n, e2⟩ := q
    dsimp only at *
    split
    · rfl
    · rename_i h2
      have hk2 := hk2 (by omega)
      rw [len_snap]
      dsimp only
      rw [mapOf_length (by rw [List.length_drop]; omega)]
theorem oneS_k (l : List UInt8) : (oneS l).2 = 0 ∨ (0 < (oneS l).2 ∧ (oneS l).2 ≤ l.length) := by
  unfold oneS
  have hk := @getText_k l
  generalize getText l = p at *
  obtain ⟨name, at_, e⟩ := p
  dsimp only at *
  split
  · exact .inl rfl
  · rename_i he
    have hk := hk (by omega)
    have hk2 := @get_k (l.drop at_.toNat)
    generalize get (l.drop at_.toNat) = q at *
    obtain ⟨id, n, e2⟩ := q
    dsimp only at *
    split
    · exact .inl rfl
    · rename_i h2
      have hk2 := hk2 (by omega)
      exact .inr (by dsimp only; omega)
def mapTo (m : List Int) (no : Nat) : List Int := m.take no ++ List.replicate (32 - no) 0
theorem mapTo_set {m : List Int} {no : Nat} {x : Int} (h : m[no]? = some x) (hno : no < 32) (hm : m.length = 32) : (mapTo m no).set no x = mapTo m (no + 1) := by
  unfold mapTo
  rw [take_succ h]
  have hl : (m.take no).length = no := by rw [List.length_take]; omega
  rw [List.set_append_right _ _ (by omega), hl, Nat.sub_self]
  have e : 32 - no = (32 - (no + 1)) + 1 := by omega
  rw [e, List.replicate_succ, List.set_cons_zero, List.append_assoc]
  rfl
theorem mapTo_all {m : List Int} (hm : m.length = 32) : mapTo m 32 = m := by unfold mapTo; rw [List.take_of_length_le (by omega)]; simp
theorem mapTo_one (l : List UInt8) : mapTo (mapOf l) 1 = List.replicate 32 0 := by unfold mapTo mapOf; rw [List.take_succ_cons, List.take_zero]; rfl
theorem mapTo_length {m : List Int} {no : Nat} (hm : m.length = 32) (h : no ≤ 32) : (mapTo m no).length = 32 := by unfold mapTo; simp; omega
theorem snap_set {s : Snap} {no : Nat} {x : Int} (h : no < s.map.length) : splice (encSnap s) (0 + 3 + (no : Int).toNat * 1) [.int .i64 x] = encSnap { s with map := s.map.set no x } := by
  have e : 0 + 3 + (no : Int).toNat * 1 = no + 3 := by omega
  rw [e, splice_one _ (by rw [len_snap]; omega)]
  show Value.string s.name :: Value.int .i64 s.id :: Value.bool s.inv :: (s.map.map (Value.int .i64)).set no (.int .i64 x) = _
  rw [← List.map_set]
  rfl
theorem mapOf_at {l : List UInt8} {a no : Nat} {c : UInt8} (h : l[a + no]? = some c) (h1 : 1 ≤ no) (h2 : no < 32) : (mapOf (l.drop (a + 1)))[no]? = some (c.toNat : Int) := by
  obtain ⟨j, rfl⟩ : ∃ j, no = j + 1 := ⟨no - 1, by omega⟩
  unfold mapOf
  rw [List.getElem?_cons_succ, List.getElem?_map, List.getElem?_take, if_pos (by omega), List.getElem?_drop]
  rw [show a + 1 + j = a + (j + 1) from by omega, h]
  rfl

def readSnaps (l : List UInt8) : Nat → Nat → Option (List Snap)
  | 0, _ => some []
  | k + 1, a => if (oneS (l.drop a)).2 = 0 then none else
    match readSnaps l k (a + (oneS (l.drop a)).2.toNat) with
    | none => none
    | some r => some ((oneS (l.drop a)).1 :: r)
/-- the end of reading: it must be its own page -/
def sealed (l : List UInt8) (next : Int) (s : List Snap) : (Int × List Snap) × Int :=
  if (encode next s).2 ≠ 0 ∨ (encode next s).1 ≠ l then ((0, []), 8) else ((next, s), 0)
def decodeS (l : List UInt8) : (Int × List Snap) × Int :=
  if l.length ≠ 256 then ((0, []), 8) else
  match get l with
  | (next, at_, e) => if e ≠ 0 then ((0, []), 8) else
    match get (l.drop at_.toNat) with
    | (k, n, e2) => if e2 ≠ 0 ∨ k < 0 ∨ 4 < k then ((0, []), 8) else
      match readSnaps l k.toNat (at_ + n).toNat with
      | none => ((0, []), 8)
      | some s => sealed l next s
theorem readSnaps_len {l : List UInt8} : ∀ (k a : Nat) (r : List Snap), readSnaps l k a = some r → r.length = k ∧ ∀ s ∈ r, (encSnap s).length = 35 := by
  intro k
  induction k with
  | zero => intro a r h; simp only [readSnaps, Option.some.injEq] at h; subst h; exact ⟨rfl, by simp⟩
  | succ k ih =>
    intro a r h
    rw [readSnaps] at h
    split at h
    · cases h
    · split at h
      · cases h
      · rename_i r' hr'
        obtain rfl := Option.some.inj h
        obtain ⟨h1, h2⟩ := ih _ _ hr'
        refine ⟨by simp [h1], ?_⟩
        intro s hs
        rcases List.mem_cons.1 hs with rfl | hs
        · exact oneS_len _
        · exact h2 s hs
/-- reading goes on -/
def thenSeal (l : List UInt8) (next : Int) (acc : List Snap) : Option (List Snap) → (Int × List Snap) × Int
  | none => ((0, []), 8)
  | some s => sealed l next (acc ++ s)
theorem thenSeal_cons (l : List UInt8) (next : Int) (acc : List Snap) (s : Snap) (R : Option (List Snap)) :
    thenSeal l next acc (match R with | none => none | some r => some (s :: r)) = thenSeal l next (acc ++ [s]) R := by
  cases R with
  | none => rfl
  | some r => simp [thenSeal]
end Go.Pl
