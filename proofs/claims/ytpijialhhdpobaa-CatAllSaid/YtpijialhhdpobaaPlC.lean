/- Catalogs as bytes, in plain words. No program in sight. -/
import Derived.Test.YtpijialhhdpobaaPlB
namespace Go.Pl
open Go Go.Sx

def b8 (n : Int) : UInt8 := UInt8.ofNat (n % 256).toNat
theorem b8_wrap (n : Int) : IntKind.u8.wrap n = ((b8 n).toNat : Int) := by
  rw [IntKind.wrap_u8]; unfold b8; rw [UInt8.toNat_ofNat']; omega
def snapBytes (s : Snap) : List UInt8 := putText s.name ++ put s.id ++ [if s.inv then 1 else 0] ++ (s.map.drop 1).map b8
def catBytes (next : Int) (l : List Snap) : List UInt8 := put next ++ put l.length ++ l.flatMap snapBytes
def page (l : List UInt8) : List UInt8 := l ++ List.replicate (256 - l.length) 0
def whole (l : List UInt8) : List UInt8 := if 256 < l.length then [] else page l

theorem mapI (l : List Int) : l.flatMap encI = l.map (Value.int .i64) := by
  induction l with
  | nil => rfl
  | cons x l ih => simpa using ih
theorem flatMap_take_succ {α β : Type} (f : α → List β) (l : List α) {i : Nat} {x : α} (h : l[i]? = some x) : (l.take (i + 1)).flatMap f = (l.take i).flatMap f ++ f x := by
  have hi : i < l.length := (List.getElem?_eq_some_iff.1 h).1
  rw [List.take_succ_eq_append_getElem hi, List.flatMap_append]
  rw [List.getElem?_eq_getElem hi] at h
  rw [Option.some.inj h]
  simp
theorem map_take_succ {α β : Type} (f : α → β) (l : List α) {i : Nat} {x : α} (h : l[i]? = some x) : (l.take (i + 1)).map f = (l.take i).map f ++ [f x] := by
  have hi : i < l.length := (List.getElem?_eq_some_iff.1 h).1
  rw [List.take_succ_eq_append_getElem hi, List.map_append]
  rw [List.getElem?_eq_getElem hi] at h
  rw [Option.some.inj h]
  simp

/-- what a number that is between 0 and 2^40 takes -/
theorem put_small {n : Int} (h0 : 0 ≤ n) (h1 : n ≤ 1099511627776) : (put n).length ≤ 6 := by
  unfold put
  refine putU_length 5 _ ?_
  unfold zig
  rw [if_neg (by omega)]
  have : (128 : Nat) ^ (5 + 1) = 4398046511104 := by decide
  omega
theorem put_tiny {n : Int} (h0 : 0 ≤ n) (h1 : n ≤ 63) : (put n).length ≤ 1 := by
  unfold put
  refine putU_length 0 _ ?_
  unfold zig
  rw [if_neg (by omega)]
  omega

theorem nameB_iff (s : ByteArray) : nameB s = true ↔ 1 ≤ s.size ∧ s.size ≤ 8 := by unfold nameB; simp

/-- what may be is small -/
theorem mayOut_ok (next : Int) (all : List Snap) : ∀ (l : List Snap) (i : Nat) (last : Int) (seen : List Int), 0 ≤ last → mayOut next all i last seen l = true → ∀ s ∈ l, nameB s.name = true ∧ 0 < s.id ∧ s.id ≤ next := by
  intro l
  induction l with
  | nil => intro i last seen _ _ s hs; cases hs
  | cons x l ih =>
    intro i last seen h0 h s hs
    rw [mayOut] at h
    split at h
    · cases h
    · rename_i hc
      have h1 : nameB x.name = true := by
        cases hb : nameB x.name with
        | true => rfl
        | false => exact (hc (.inl hb)).elim
      have h2 : last < x.id := Int.not_le.1 fun hh => hc (.inr (.inr (.inl hh)))
      have h3 : x.id ≤ next := Int.not_lt.1 fun hh => hc (.inr (.inr (.inr hh)))
      split at h
      · cases h
      · rcases List.mem_cons.1 hs with rfl | hs
        · exact ⟨h1, by omega, h3⟩
        · exact ih _ _ _ (by omega) h s hs
theorem may_ok {next : Int} {l : List Snap} (h : mayB next l = true) : 0 ≤ next ∧ next ≤ 1099511627776 ∧ l.length ≤ 4 ∧ ∀ s ∈ l, nameB s.name = true ∧ 0 < s.id ∧ s.id ≤ next := by
  unfold mayB at h
  split at h
  · cases h
  · rename_i hc
    exact ⟨by omega, by omega, by omega, mayOut_ok next l l 0 0 [] (by omega) h⟩
theorem snapBytes_length {s : Snap} (h : (encSnap s).length = 35) (hn : nameB s.name = true) (h0 : 0 < s.id) (h1 : s.id ≤ 1099511627776) : (snapBytes s).length ≤ 47 := by
  have h2 := (nameB_iff _).1 hn
  have h3 := put_tiny (n := s.name.size) (by omega) (by omega)
  have h4 := put_small (n := s.id) (by omega) h1
  have h5 := map32 h
  have h6 : s.name.data.toList.length = s.name.size := Array.length_toList
  unfold snapBytes putText
  simp only [List.length_append, List.length_map, List.length_drop, List.length_cons, List.length_nil]
  omega
theorem flatMap_length_le {α β : Type} (f : α → List β) (m : Nat) : ∀ (l : List α), (∀ x ∈ l, (f x).length ≤ m) → (l.flatMap f).length ≤ l.length * m := by
  intro l
  induction l with
  | nil => intro _; simp
  | cons x l ih =>
    intro h
    have h1 := h x (by simp)
    have h2 := ih (fun y hy => h y (by simp [hy]))
    simp only [List.flatMap_cons, List.length_append, List.length_cons, Nat.succ_mul]
    omega
theorem catBytes_length {next : Int} {l : List Snap} (h : mayB next l = true) (h35 : ∀ s ∈ l, (encSnap s).length = 35) : (catBytes next l).length ≤ 195 := by
  obtain ⟨h0, h1, h2, h3⟩ := may_ok h
  have h4 := put_small h0 h1
  have h5 := put_tiny (n := l.length) (by omega) (by omega)
  have h6 := flatMap_length_le snapBytes 47 l (fun s hs => snapBytes_length (h35 s hs) (h3 s hs).1 (h3 s hs).2.1 (by have := (h3 s hs).2.2; omega))
  have h7 : l.length * 47 ≤ 4 * 47 := Nat.mul_le_mul_right _ h2
  unfold catBytes
  simp only [List.length_append]
  omega
theorem page_length {l : List UInt8} (h : l.length ≤ 256) : (page l).length = 256 := by unfold page; simp; omega

theorem snap_row {s : Snap} (h : (encSnap s).length = 35) {b t : Nat} {hs : List Chunk} : Row encI 1 ([(b, blk (encSnap s) t (0, 0))] :: hs) (.slice (some ⟨b, 0 + 3 + 1 * 1, none⟩) (32 - 1) (32 - 1)) (s.map.drop 1) := by
  refine Row.of_blk Has.one (fun _ _ => rfl) (by rw [List.length_drop, map32 h]) (Nat.le_refl _) ?_
  rw [mapI]
  show ((s.map.map (Value.int .i64)).drop 1).take ((32 - 1) * 1) = _
  rw [List.take_of_length_le (by rw [List.length_drop, List.length_map, map32 h]; omega), List.map_drop]
def encode (next : Int) (l : List Snap) : List UInt8 × Int := if mayB next l = true then (page (catBytes next l), 0) else ([], 1)
/-- so far -/
def catTo (next : Int) (l : List Snap) (i : Nat) : List UInt8 := put next ++ put l.length ++ (l.take i).flatMap snapBytes
theorem catTo_succ {next : Int} {l : List Snap} {i : Nat} {s : Snap} (h : l[i]? = some s) : catTo next l (i + 1) = catTo next l i ++ snapBytes s := by
  unfold catTo; rw [flatMap_take_succ _ _ h]; simp only [List.append_assoc]
theorem catTo_all {next : Int} {l : List Snap} {i : Nat} (h : l.length ≤ i) : catTo next l i = catBytes next l := by unfold catTo catBytes; rw [List.take_of_length_le h]
theorem catTo_length {next : Int} {l : List Snap} (h : mayB next l = true) (h35 : ∀ s ∈ l, (encSnap s).length = 35) (i : Nat) : (catTo next l i).length ≤ 195 := by
  obtain ⟨h0, h1, h2, h3⟩ := may_ok h
  have h4 := put_small h0 h1
  have h5 := put_tiny (n := l.length) (by omega) (by omega)
  have h6 := flatMap_length_le snapBytes 47 (l.take i) (fun s hs => snapBytes_length (h35 s (List.mem_of_mem_take hs)) (h3 s (List.mem_of_mem_take hs)).1 (h3 s (List.mem_of_mem_take hs)).2.1 (by have := (h3 s (List.mem_of_mem_take hs)).2.2; omega))
  have h7 : (l.take i).length * 47 ≤ 4 * 47 := Nat.mul_le_mul_right _ (by have := List.length_take_le i l; have h8 := List.length_take_le' i l; omega)
  unfold catTo
  simp only [List.length_append]
  omega
/-- of one snapshot, so far -/
def headBytes (s : Snap) : List UInt8 := putText s.name ++ put s.id ++ [if s.inv then 1 else 0]
theorem headBytes_map (s : Snap) : headBytes s ++ (s.map.drop 1).map b8 = snapBytes s := rfl

def Lb (L : List Bool) : List Value := L.map Value.bool
theorem Lb_length (L : List Bool) : (Lb L).length = L.length := by simp [Lb]
theorem Lb_at {L : List Bool} {n : Int} {b : Bool} (h : L[n.toNat]? = some b) : (Lb L)[0 + n.toNat * 1]? = some (.bool b) := by
  rw [Nat.zero_add, Nat.mul_one]; unfold Lb; rw [List.getElem?_map, h]; rfl
theorem Lb_set {L : List Bool} {n : Int} {b : Bool} (h : n.toNat < L.length) : splice (Lb L) (0 + n.toNat * 1) [.bool b] = Lb (L.set n.toNat b) := by
  rw [Nat.zero_add, Nat.mul_one, splice_one _ (by rw [Lb_length]; exact h)]; unfold Lb; rw [List.map_set]
def catBytesR (next : Int) (l : List Snap) : List UInt8 := if refMay next l = true then whole (catBytes next l) else []

/-! ### the same? -/
def eqSnap (a b : Snap) : Bool := decide (a.name = b.name) && decide (a.id = b.id) && (a.inv == b.inv) && decide (a.map = b.map)
def eqSnaps : List Snap → List Snap → Bool
  | a :: l, b :: r => eqSnap a b && eqSnaps l r
  | _, _ => true
theorem eqSnaps_nil (r : List Snap) : eqSnaps [] r = true := by cases r <;> rfl
def eqCat (n : Int) (a : List Snap) (m : Int) (b : List Snap) : Bool := decide (n = m) && decide (a.length = b.length) && eqSnaps a b
def cutSnap (s : Snap) : Snap := { s with name := cutS s.name 10 }
end Go.Pl
