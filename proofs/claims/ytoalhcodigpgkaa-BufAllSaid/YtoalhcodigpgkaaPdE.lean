/- The calls of a pool, plainly. No program in sight. -/
import Derived.Test.YtoalhcodigpgkaaPdD
namespace Go.Pl
open Go Go.Sx

def ptrOf : Value → Option Addr
  | .pointer q => q
  | _ => none
def findP (ts : List Tr) (no : Int) : Option Addr :=
  if firstAt (fun t : Tr => isNo no t.2.1) 0 ts < 0 then none else ptrOf (ts.getD (firstAt (fun t : Tr => isNo no t.2.1) 0 ts).toNat (.pointer none, ⟨0, [], false, 0⟩, [])).1
/-- what find gives -/
theorem findP_none {ts : List Tr} {no : Int} {tU tF : Nat} (ha : AllFr tU tF ts) (h : (findP ts no).isNone = true) : found (frs ts) no < 0 ∧ askedT ts no = ts := by
  have e : found (frs ts) no = firstAt (fun t : Tr => isNo no t.2.1) 0 ts := firstAt_map _ _ _ _
  rw [e]
  by_cases hc : firstAt (fun t : Tr => isNo no t.2.1) 0 ts < 0
  · exact ⟨hc, by unfold askedT; rw [if_pos hc]⟩
  · exfalso
    obtain ⟨i, hi, hil⟩ := firstAt_some hc
    obtain ⟨t, ht⟩ := nth hil
    obtain ⟨bf, vb, Kb, h1, _⟩ := (ha t (List.mem_of_getElem? ht)).is
    unfold findP at h
    rw [if_neg hc, hi, Int.toNat_natCast, List.getD_eq_getElem?_getD, ht] at h
    simp only [Option.getD_some, h1, ptrOf] at h
    cases h
theorem findP_some {ts : List Tr} {no : Int} {tU tF : Nat} (ha : AllFr tU tF ts) (h : (findP ts no).isNone = false) :
    ¬ found (frs ts) no < 0 ∧ ∃ us t bf vb Kb, askedT ts no = us ++ [t] ∧ findP ts no = some ⟨bf, 0, none⟩ ∧ t.1 = .pointer (some ⟨bf, 0, none⟩) ∧ Own encB 1 tU vb t.2.1.b Kb ∧ oneC vb = true ∧ t.2.2 = [(bf, blk (frCells t.2.1 vb) tF (0, 0))] ++ Kb ∧
      isNo no t.2.1 = true ∧ t ∈ ts ∧ us.length + 1 = ts.length ∧ IsFr tU tF t ∧ AllFr tU tF us := by
  have e : found (frs ts) no = firstAt (fun t : Tr => isNo no t.2.1) 0 ts := firstAt_map _ _ _ _
  rw [e]
  by_cases hc : firstAt (fun t : Tr => isNo no t.2.1) 0 ts < 0
  · unfold findP at h; rw [if_pos hc] at h; cases h
  · refine ⟨hc, ?_⟩
    obtain ⟨i, hi, hil⟩ := firstAt_some hc
    obtain ⟨t, ht⟩ := nth hil
    obtain ⟨bf, vb, Kb, h1, h2, h3, h4⟩ := (ha t (List.mem_of_getElem? ht)).is
    refine ⟨cut ts i, t, bf, vb, Kb, by unfold askedT; rw [if_neg hc, hi, Int.toNat_natCast, toEnd_some ht], ?_, h1, h2, h3, h4, firstAt_true (q := fun t : Tr => isNo no t.2.1) (k := 0) (i := i) (by rw [hi]; simp) ht, List.mem_of_getElem? ht, by rw [cut_length hil]; omega, ha t (List.mem_of_getElem? ht), ha.cut i⟩
    unfold findP
    rw [if_neg hc, hi, Int.toNat_natCast, List.getD_eq_getElem?_getD, ht]
    simp only [Option.getD_some, h1, ptrOf]
theorem chunk_snoc (ts : List Tr) (t : Tr) : chunk (ts ++ [t]) = chunk ts ++ t.2.2 := by unfold chunk; simp
theorem ptrs_snoc (ts : List Tr) (t : Tr) : ptrs (ts ++ [t]) = ptrs ts ++ [t.1] := by unfold ptrs; simp
theorem frs_snoc (ts : List Tr) (t : Tr) : frs (ts ++ [t]) = frs ts ++ [t.2.1] := by unfold frs; simp

def lastFr (fs : List Fr) : Fr := fs.getLast?.getD ⟨0, [], false, 0⟩
def poolPage (fs : List Fr) (l : Log) (d : Dev) (no : Int) : List UInt8 × Int × List Fr × Log × Dev :=
  if ¬ mayPage no then ([], 3, fs, l, d)
  else if found fs no < 0 then
    if (readPage d no).2 ≠ 0 then ([], (readPage d no).2, fs, l, d)
    else if (room 6 (fs ++ [⟨no, (readPage d no).1, false, 0⟩]) l d).2.2.2 ≠ 0 then
      ([], (room 6 (fs ++ [⟨no, (readPage d no).1, false, 0⟩]) l d).2.2.2, (room 6 (fs ++ [⟨no, (readPage d no).1, false, 0⟩]) l d).1.dropLast, (room 6 (fs ++ [⟨no, (readPage d no).1, false, 0⟩]) l d).2.1, (room 6 (fs ++ [⟨no, (readPage d no).1, false, 0⟩]) l d).2.2.1)
    else ((readPage d no).1, 0, (room 6 (fs ++ [⟨no, (readPage d no).1, false, 0⟩]) l d).1, (room 6 (fs ++ [⟨no, (readPage d no).1, false, 0⟩]) l d).2.1, (room 6 (fs ++ [⟨no, (readPage d no).1, false, 0⟩]) l d).2.2.1)
  else ((lastFr (asked fs no)).b, 0, asked fs no, l, d)
/-- where a page that is put stands: at the end -/
def putAt (fs : List Fr) (no : Int) (b : List UInt8) (lsn : Int) : List Fr :=
  if found fs no < 0 then fs ++ [⟨no, b, true, max 0 lsn⟩] else (asked fs no).dropLast ++ [⟨(lastFr (asked fs no)).no, b, true, max (lastFr (asked fs no)).lsn lsn⟩]
def poolPut (fs : List Fr) (l : Log) (d : Dev) (no : Int) (b : List UInt8) (lsn : Int) : Int × List Fr × Log × Dev :=
  if ¬ mayPage no then (3, fs, l, d) else if b.length ≠ 256 then (1, fs, l, d)
  else ((room 6 (putAt fs no b lsn) l d).2.2.2, (room 6 (putAt fs no b lsn) l d).1, (room 6 (putAt fs no b lsn) l d).2.1, (room 6 (putAt fs no b lsn) l d).2.2.1)
def poolFlush (fs : List Fr) (l : Log) (d : Dev) (no : Int) : Int × List Fr × Log × Dev :=
  if ¬ mayPage no then (3, fs, l, d) else if firstAt (isNoDirty no) 0 fs < 0 then (0, fs, l, d)
  else ((poolClean fs [(firstAt (isNoDirty no) 0 fs).toNat] l d).2.2.2, (poolClean fs [(firstAt (isNoDirty no) 0 fs).toNat] l d).1, (poolClean fs [(firstAt (isNoDirty no) 0 fs).toNat] l d).2.1, (poolClean fs [(firstAt (isNoDirty no) 0 fs).toNat] l d).2.2.1)
/-- the places of the dirty ones -/
def dirtyAt : Nat → List Fr → List Nat
  | _, [] => []
  | i, f :: l => if f.dirty = true then i :: dirtyAt (i + 1) l else dirtyAt (i + 1) l
def poolAll (fs : List Fr) (l : Log) (d : Dev) : Int × List Fr × Log × Dev :=
  ((poolClean fs (dirtyAt 0 fs) l d).2.2.2, (poolClean fs (dirtyAt 0 fs) l d).1, (poolClean fs (dirtyAt 0 fs) l d).2.1, (poolClean fs (dirtyAt 0 fs) l d).2.2.1)
def dirties (fs : List Fr) : List Int := (fs.filter (·.dirty)).map (·.no)
def poolDirty (fs : List Fr) : List Int := (dirties fs).mergeSort fun x y => decide (x ≤ y)

theorem modify_last {α : Type} {l : List α} (h : 1 < l.length) (g : α → α) : (l.modify 0 g).getLast? = l.getLast? := by
  match l, h with
  | x :: y :: r, _ => simp
theorem poolClean_last {fs : List Fr} {l : Log} {d : Dev} (h : 1 < fs.length) : (poolClean fs [0] l d).1.getLast? = fs.getLast? := by
  unfold poolClean
  split
  · rfl
  · split
    · rfl
    · split
      · rfl
      · split
        · rfl
        · exact modify_last h _
theorem poolClean_length (fs : List Fr) (is : List Nat) (l : Log) (d : Dev) : (poolClean fs is l d).1.length = fs.length := by
  unfold poolClean
  split
  · rfl
  · split
    · rfl
    · split
      · rfl
      · split
        · rfl
        · exact cleaned_length _ _
theorem roomStep_last {fs : List Fr} {l : Log} {d : Dev} (h : 1 < fs.length) : (roomStep fs l d).1.getLast? = fs.getLast? ∧ ((roomStep fs l d).2.2.2 = 0 → (roomStep fs l d).1.length = fs.length - 1) := by
  unfold roomStep
  split
  · split
    · rename_i hc he; exact ⟨poolClean_last h, fun h0 => absurd h0 he⟩
    · refine ⟨?_, fun _ => ?_⟩
      · rw [cut_last (by rw [poolClean_length]; omega), poolClean_last h]
      · rw [cut_length (by rw [poolClean_length]; omega), poolClean_length]
  · rename_i hc
    obtain ⟨i, hi, hil⟩ := firstAt_some hc
    rw [List.length_take] at hil
    rw [hi, Int.toNat_natCast]
    exact ⟨cut_last (by omega), fun _ => cut_length (by omega)⟩
theorem poolRoom_last {n : Nat} (hn : 1 ≤ n) : ∀ (k : Nat) (fs : List Fr) (l : Log) (d : Dev), fs.length = n + k → (poolRoom n k fs l d).1.getLast? = fs.getLast? := by
  intro k
  induction k with
  | zero => intro fs l d _; rfl
  | succ k ih =>
    intro fs l d h
    have hs := roomStep_last (fs := fs) (l := l) (d := d) (by omega)
    rw [poolRoom]
    split
    · exact hs.1
    · rename_i he
      rw [ih _ _ _ (by rw [hs.2 (Classical.byContradiction he)]; omega), hs.1]
theorem room_last {n : Nat} (hn : 1 ≤ n) (fs : List Fr) (l : Log) (d : Dev) : (room n fs l d).1.getLast? = fs.getLast? := by
  unfold room
  by_cases h : fs.length ≤ n
  · rw [show fs.length - n = 0 by omega]; rfl
  · exact poolRoom_last hn _ _ _ _ (by omega)
theorem last_snoc {α : Type} {l : List α} {x : α} (h : l.getLast? = some x) : l = l.dropLast ++ [x] := by
  rw [List.getLast?_eq_some_iff] at h
  obtain ⟨ys, rfl⟩ := h
  simp
theorem readPage_length {d : Dev} (hd : d.ok) {no : Int} (h : (readPage d no).2 = 0) : (readPage d no).1.length = 256 := by
  unfold readPage at h ⊢
  split
  · rename_i h1; rw [if_pos h1] at h; cases h
  · rename_i h1
    rw [if_neg h1] at h
    split
    · rename_i h2
      have h1 : mayPage no := Classical.byContradiction h1
      unfold mayPage at h1; unfold Dev.in at h2
      exact Dev.reads_length hd 4 _ (by omega) (by omega)
    · rename_i h2; rw [if_neg h2] at h; cases h
theorem dirtyAt_app (l : List Fr) (f : Fr) : ∀ i, dirtyAt i (l ++ [f]) = dirtyAt i l ++ if f.dirty = true then [i + l.length] else [] := by
  induction l with
  | nil => intro i; simp [dirtyAt]
  | cons x l ih =>
    intro i
    rw [List.cons_append, dirtyAt, dirtyAt, ih, List.length_cons, show i + 1 + l.length = i + (l.length + 1) by omega]
    split <;> rfl
theorem dirtyAt_snoc {l : List Fr} {i : Nat} {f : Fr} (h : l[i]? = some f) (k : Nat) : dirtyAt k (l.take (i + 1)) = dirtyAt k (l.take i) ++ if f.dirty = true then [k + i] else [] := by
  have hi : i < l.length := (List.getElem?_eq_some_iff.1 h).1
  rw [take_succ h, dirtyAt_app, List.length_take, Nat.min_eq_left (by omega)]
theorem dirtyAt_length : ∀ (l : List Fr) (i : Nat), (dirtyAt i l).length ≤ l.length := by
  intro l
  induction l with
  | nil => intro i; exact Nat.le_refl _
  | cons x l ih =>
    intro i
    rw [dirtyAt]
    have := ih (i + 1)
    split
    · simp only [List.length_cons]; omega
    · simp only [List.length_cons]; omega
theorem dirtyAt_range : ∀ {l : List Fr} {i k : Nat}, k ∈ dirtyAt i l → i ≤ k ∧ k < i + l.length := by
  intro l
  induction l with
  | nil => intro i k h; cases h
  | cons x l ih =>
    intro i k h
    rw [dirtyAt] at h
    simp only [List.length_cons]
    split at h
    · rcases List.mem_cons.1 h with rfl | h
      · omega
      · have := ih h; omega
    · have := ih h; omega
theorem dirtyAt_lt {l : List Fr} {k : Nat} (h : k ∈ dirtyAt 0 l) : k < l.length := by have := dirtyAt_range h; omega
end Go.Pl
