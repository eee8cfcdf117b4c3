/- A pool of pages, plainly: frames in the order in which they were asked. No program in sight. -/
import Derived.Test.YtoalhcodigpgkaaPdC
namespace Go.Pl
open Go Go.Sx

structure Fr where
  no : Int
  b : List UInt8
  dirty : Bool
  lsn : Int
def encV (v : Value) : List Value := [v]
def frCells (f : Fr) (vb : Value) : List Value := [.int .i64 f.no, vb, .bool f.dirty, .int .i64 f.lsn]
/-- a frame in memory: its pointer, what it is, its chunk -/
abbrev Tr := Value × Fr × Chunk
structure IsFr (tU tF : Nat) (t : Tr) : Prop where
  len : t.2.1.b.length = 256
  no : mayPage t.2.1.no
  lsn : 0 ≤ t.2.1.lsn
  is : ∃ bf vb K, t.1 = .pointer (some ⟨bf, 0, none⟩) ∧ Own encB 1 tU vb t.2.1.b K ∧ oneC vb = true ∧ t.2.2 = [(bf, blk (frCells t.2.1 vb) tF (0, 0))] ++ K
def ptrs (ts : List Tr) : List Value := ts.map (·.1)
def frs (ts : List Tr) : List Fr := ts.map (·.2.1)
def chunk (ts : List Tr) : Chunk := (ts.map (·.2.2)).flatten
abbrev AllFr (tU tF : Nat) (ts : List Tr) : Prop := ∀ t ∈ ts, IsFr tU tF t

def firstAt {α : Type} (q : α → Bool) : Nat → List α → Int
  | _, [] => -1
  | i, x :: l => if q x = true then (i : Int) else firstAt q (i + 1) l
theorem firstAt_map {α β : Type} (g : α → β) (q : β → Bool) : ∀ (l : List α) (i : Nat), firstAt q i (l.map g) = firstAt (fun x => q (g x)) i l := by
  intro l
  induction l with
  | nil => intro i; rfl
  | cons x l ih => intro i; rw [List.map_cons, firstAt, firstAt, ih]
theorem firstAt_range {α : Type} (q : α → Bool) : ∀ (l : List α) (i : Nat), firstAt q i l = -1 ∨ ((i : Int) ≤ firstAt q i l ∧ firstAt q i l < (i + l.length : Nat)) := by
  intro l
  induction l with
  | nil => intro i; exact .inl rfl
  | cons x l ih =>
    intro i
    rw [firstAt]
    split
    · right; simp only [List.length_cons]; omega
    · rcases ih (i + 1) with h | h
      · exact .inl h
      · right; simp only [List.length_cons]; omega
theorem firstAt_some {α : Type} {q : α → Bool} {l : List α} (h : ¬ firstAt q 0 l < 0) : ∃ i : Nat, firstAt q 0 l = i ∧ i < l.length := by
  rcases firstAt_range q l 0 with h1 | h1
  · omega
  · exact ⟨(firstAt q 0 l).toNat, by omega, by omega⟩
theorem firstAt_true {α : Type} {q : α → Bool} : ∀ {l : List α} {k i : Nat} {x : α}, firstAt q k l = (k + i : Nat) → l[i]? = some x → q x = true := by
  intro l
  induction l with
  | nil => intro k i x _ h; simp at h
  | cons y l ih =>
    intro k i x h hx
    rw [firstAt] at h
    split at h
    · rename_i hy
      have : i = 0 := by omega
      subst this
      simp at hx; subst hx; exact hy
    · cases i with
      | zero =>
        exfalso
        rcases firstAt_range q l (k + 1) with h1 | h1 <;> omega
      | succ i => exact ih (k := k + 1) (i := i) (by rw [h]; omega) (by simpa using hx)
theorem firstAt_none {α : Type} {q : α → Bool} : ∀ {l : List α} {k : Nat}, firstAt q k l < 0 → ∀ x ∈ l, q x = false := by
  intro l
  induction l with
  | nil => intro k _ x hx; cases hx
  | cons y l ih =>
    intro k h x hx
    rw [firstAt] at h
    split at h
    · omega
    · rename_i hy
      rcases List.mem_cons.1 hx with rfl | hx
      · simpa using hy
      · exact ih h x hx

/-! ### what is done to a list of frames -/
def cut {α : Type} (l : List α) (i : Nat) : List α := l.take i ++ l.drop (i + 1)
def toEnd {α : Type} (l : List α) (i : Nat) : List α := match l[i]? with
  | some x => cut l i ++ [x]
  | none => l
theorem cut_map {α β : Type} (g : α → β) (l : List α) (i : Nat) : (cut l i).map g = cut (l.map g) i := by unfold cut; rw [List.map_append, List.map_take, List.map_drop]
theorem toEnd_some {α : Type} {l : List α} {i : Nat} {x : α} (h : l[i]? = some x) : toEnd l i = cut l i ++ [x] := by unfold toEnd; rw [h]
theorem toEnd_map {α β : Type} (g : α → β) (l : List α) (i : Nat) : (toEnd l i).map g = toEnd (l.map g) i := by
  unfold toEnd
  rw [List.getElem?_map]
  cases l[i]? with
  | none => rfl
  | some x => simp [cut_map]
theorem cut_perm {α : Type} {l : List α} {i : Nat} {x : α} (h : l[i]? = some x) : l.Perm (x :: cut l i) := by
  have hi : i < l.length := (List.getElem?_eq_some_iff.1 h).1
  have e : l = l.take i ++ x :: l.drop (i + 1) := by
    rw [← drop_cons h, List.take_append_drop]
  rw [e]
  unfold cut
  have h1 : (l.take i ++ x :: l.drop (i + 1)).take i = l.take i := by rw [List.take_append_of_le_length (by rw [List.length_take]; omega), List.take_take, Nat.min_self]
  have h2 : (l.take i ++ x :: l.drop (i + 1)).drop (i + 1) = l.drop (i + 1) := by rw [← e]
  rw [h1, h2]
  exact List.perm_middle
theorem toEnd_perm {α : Type} (l : List α) (i : Nat) : l.Perm (toEnd l i) := by
  cases h : l[i]? with
  | none => unfold toEnd; rw [h]
  | some x =>
    rw [toEnd_some h]
    exact (cut_perm h).trans (by simpa using (List.perm_append_comm (l₁ := [x]) (l₂ := cut l i)))
theorem cut_length {α : Type} {l : List α} {i : Nat} (h : i < l.length) : (cut l i).length = l.length - 1 := by unfold cut; rw [List.length_append, List.length_take, List.length_drop]; omega
theorem cut_mem {α : Type} {l : List α} {i : Nat} {x : α} (h : x ∈ cut l i) : x ∈ l := by
  unfold cut at h
  rcases List.mem_append.1 h with h | h
  · exact List.mem_of_mem_take h
  · exact List.mem_of_mem_drop h
theorem set_perm {α : Type} {l : List α} {i : Nat} {x : α} (h : i < l.length) : (l.set i x).Perm (x :: cut l i) := by
  have h1 : (l.set i x)[i]? = some x := List.getElem?_set_self h
  have := cut_perm h1
  have e : cut (l.set i x) i = cut l i := by unfold cut; rw [List.take_set_of_le (Nat.le_refl _), List.drop_set_of_lt (by omega)]
  rwa [e] at this
theorem chunk_perm {ts us : List Tr} (h : ts.Perm us) : (chunk ts).Perm (chunk us) := (h.map _).flatten
theorem chunk_cons (t : Tr) (ts : List Tr) : chunk (t :: ts) = t.2.2 ++ chunk ts := rfl

/-- the device, the frames written one behind the other, as far as it goes -/
def wrFrames (d : Dev) : List Fr → Dev × Int
  | [] => (d, 0)
  | f :: l => if (writePage d f.no f.b).2 ≠ 0 then writePage d f.no f.b else wrFrames (writePage d f.no f.b).1 l
def Fr.clean (f : Fr) : Fr := { f with dirty := false, lsn := 0 }
def topLsn (l : List Fr) : Int := l.foldl (fun m f => max m f.lsn) 0
/-- some frames (by their places) are cleaned -/
def picks (fs : List Fr) (is : List Nat) : List Fr := is.filterMap (fs[·]?)
def cleaned (fs : List Fr) (is : List Nat) : List Fr := is.foldl (fun fs i => fs.modify i Fr.clean) fs
def poolClean (fs : List Fr) (is : List Nat) (l : Log) (d : Dev) : List Fr × Log × Dev × Int :=
  if is = [] then (fs, l, d, 0)
  else if (l.force d (topLsn (picks fs is))).2.2 ≠ 0 then (fs, l.force d (topLsn (picks fs is)))
  else if (wrFrames (l.force d (topLsn (picks fs is))).2.1 (picks fs is)).2 ≠ 0 then (fs, (l.force d (topLsn (picks fs is))).1, wrFrames (l.force d (topLsn (picks fs is))).2.1 (picks fs is))
  else if (wrFrames (l.force d (topLsn (picks fs is))).2.1 (picks fs is)).1.flush.2 ≠ 0 then (fs, (l.force d (topLsn (picks fs is))).1, (wrFrames (l.force d (topLsn (picks fs is))).2.1 (picks fs is)).1.flush)
  else (cleaned fs is, (l.force d (topLsn (picks fs is))).1, (wrFrames (l.force d (topLsn (picks fs is))).2.1 (picks fs is)).1.flush.1, 0)
def isClean (f : Fr) : Bool := !f.dirty
/-- one frame too many goes -/
def roomStep (fs : List Fr) (l : Log) (d : Dev) : List Fr × Log × Dev × Int :=
  if firstAt isClean 0 (fs.take (fs.length - 1)) < 0 then
    if (poolClean fs [0] l d).2.2.2 ≠ 0 then poolClean fs [0] l d
    else (cut (poolClean fs [0] l d).1 0, (poolClean fs [0] l d).2.1, (poolClean fs [0] l d).2.2.1, 0)
  else (cut fs (firstAt isClean 0 (fs.take (fs.length - 1))).toNat, l, d, 0)
def poolRoom (n : Nat) : Nat → List Fr → Log → Dev → List Fr × Log × Dev × Int
  | 0, fs, l, d => (fs, l, d, 0)
  | k + 1, fs, l, d => if (roomStep fs l d).2.2.2 ≠ 0 then roomStep fs l d else poolRoom n k (roomStep fs l d).1 (roomStep fs l d).2.1 (roomStep fs l d).2.2.1
def room (n : Nat) (fs : List Fr) (l : Log) (d : Dev) : List Fr × Log × Dev × Int := poolRoom n (fs.length - n) fs l d
def isNo (no : Int) (f : Fr) : Bool := f.no == no
def isNoDirty (no : Int) (f : Fr) : Bool := (f.no == no) && f.dirty
def found (fs : List Fr) (no : Int) : Int := firstAt (isNo no) 0 fs
def mayPool (no : Int) : Int := if mayPage no then 0 else 3

/-- a pool in memory: the struct, its slice, the frames -/
structure PoolAt (tU tF tFp : Nat) (v : Value) (ts : List Tr) (Kl : Chunk) : Prop where
  all : AllFr tU tF ts
  own : Own encV 1 tFp v (ptrs ts) Kl
  one : oneC v = true
  few : ts.length ≤ 1073741824
theorem ones_ptrs {tU tF : Nat} {ts : List Tr} (h : AllFr tU tF ts) : ones ((ptrs ts).flatMap encV) = true := by
  unfold ones ptrs
  rw [List.all_eq_true]
  intro v hv
  obtain ⟨p, hp, hv⟩ := List.mem_flatMap.1 hv
  obtain ⟨t, ht, rfl⟩ := List.mem_map.1 hp
  simp only [encV, List.mem_singleton] at hv
  subst hv
  obtain ⟨bf, vb, K, h1, _⟩ := (h t ht).is
  rw [h1]; rfl
theorem ptrs_at {ts : List Tr} {i : Nat} {t : Tr} (h : ts[i]? = some t) : (ptrs ts)[i]? = some t.1 := by unfold ptrs; rw [List.getElem?_map, h]; rfl
theorem frs_at {ts : List Tr} {i : Nat} {t : Tr} (h : ts[i]? = some t) : (frs ts)[i]? = some t.2.1 := by unfold frs; rw [List.getElem?_map, h]; rfl
theorem ptrs_length (ts : List Tr) : (ptrs ts).length = ts.length := List.length_map _
theorem frs_length (ts : List Tr) : (frs ts).length = ts.length := List.length_map _
/-- the block of a frame -/
theorem chunk_has {tU tF : Nat} {ts : List Tr} (h : AllFr tU tF ts) {t : Tr} (ht : t ∈ ts) : ∃ bf vb K, t.1 = .pointer (some ⟨bf, 0, none⟩) ∧ Own encB 1 tU vb t.2.1.b K ∧ oneC vb = true ∧ t.2.2 = [(bf, blk (frCells t.2.1 vb) tF (0, 0))] ++ K ∧
    (bf, blk (frCells t.2.1 vb) tF (0, 0)) ∈ chunk ts := by
  obtain ⟨bf, vb, K, h1, h2, h3, h4⟩ := (h t ht).is
  refine ⟨bf, vb, K, h1, h2, h3, h4, ?_⟩
  unfold chunk
  exact List.mem_flatten.2 ⟨t.2.2, List.mem_map.2 ⟨t, ht, rfl⟩, by rw [h4]; simp⟩
/-- one frame's chunk by itself -/
theorem chunk_out {ts : List Tr} {i : Nat} {t : Tr} (h : ts[i]? = some t) {A : Chunk} {r : List Chunk} : (A :: chunk ts :: r).flatten.Perm (A :: t.2.2 :: chunk (cut ts i) :: r).flatten := by
  have := chunk_perm (cut_perm h)
  rw [chunk_cons] at this
  simp only [List.flatten_cons, ← List.append_assoc]
  exact List.Perm.append_right _ (by rw [List.append_assoc]; exact List.Perm.append_left A this)
theorem chunk_in {ts : List Tr} {i : Nat} {t : Tr} (h : i < ts.length) {A : Chunk} {r : List Chunk} : (A :: t.2.2 :: chunk (cut ts i) :: r).flatten.Perm (A :: chunk (ts.set i t) :: r).flatten := by
  have := chunk_perm (set_perm (x := t) h)
  rw [chunk_cons] at this
  simp only [List.flatten_cons, ← List.append_assoc]
  exact List.Perm.append_right _ (by rw [List.append_assoc]; exact List.Perm.append_left A this.symm)
structure IsPool (tU tF tP tFp : Nat) (p pd pl : Value) (fs : List Fr) (H : Chunk) : Prop where
  is : ∃ b v ts Kl, p = .pointer (some ⟨b, 0, none⟩) ∧ fs = frs ts ∧ PoolAt tU tF tFp v ts Kl ∧ H = [(b, blk [pd, pl, v] tP (0, 0))] ++ (Kl ++ chunk ts)
theorem AllFr.perm {tU tF : Nat} {ts us : List Tr} (h : AllFr tU tF ts) (hp : ts.Perm us) : AllFr tU tF us := fun t ht => h t (hp.symm.subset ht)
theorem AllFr.cut {tU tF : Nat} {ts : List Tr} (h : AllFr tU tF ts) (i : Nat) : AllFr tU tF (cut ts i) := fun t ht => h t (cut_mem ht)
theorem AllFr.snoc {tU tF : Nat} {ts : List Tr} (h : AllFr tU tF ts) {t : Tr} (ht : IsFr tU tF t) : AllFr tU tF (ts ++ [t]) := fun u hu => by
  rcases List.mem_append.1 hu with hu | hu
  · exact h u hu
  · rw [List.mem_singleton] at hu; subst hu; exact ht
theorem AllFr.set {tU tF : Nat} {ts : List Tr} (h : AllFr tU tF ts) {t : Tr} (ht : IsFr tU tF t) (i : Nat) : AllFr tU tF (ts.set i t) := fun u hu => by
  rcases List.mem_or_eq_of_mem_set hu with hu | rfl
  · exact h u hu
  · exact ht
/-- the one that was asked goes to the end -/
def asked (fs : List Fr) (no : Int) : List Fr := if found fs no < 0 then fs else toEnd fs (found fs no).toNat
def askedT (ts : List Tr) (no : Int) : List Tr := if firstAt (fun t : Tr => isNo no t.2.1) 0 ts < 0 then ts else toEnd ts (firstAt (fun t : Tr => isNo no t.2.1) 0 ts).toNat
theorem askedT_frs (ts : List Tr) (no : Int) : frs (askedT ts no) = asked (frs ts) no := by
  have e : found (frs ts) no = firstAt (fun t : Tr => isNo no t.2.1) 0 ts := firstAt_map _ _ _ _
  unfold askedT asked
  rw [e]
  split
  · rfl
  · exact toEnd_map _ _ _
theorem askedT_perm (ts : List Tr) (no : Int) : ts.Perm (askedT ts no) := by
  unfold askedT; split
  · exact .refl _
  · exact toEnd_perm _ _
theorem chunk_swap {ts us : List Tr} (h : ts.Perm us) {A B : Chunk} {r : List Chunk} : (A :: B :: chunk ts :: r).flatten.Perm (A :: B :: chunk us :: r).flatten := by
  simp only [List.flatten_cons]
  exact List.Perm.append_left _ (List.Perm.append_left _ (List.Perm.append_right _ (chunk_perm h)))
/-- the bytes of a frame -/
theorem chunk_row {ts : List Tr} {t : Tr} (ht : t ∈ ts) {tU bf tF : Nat} {cs : List Value} {vb : Value} {K : Chunk} (ho : Own encB 1 tU vb t.2.1.b K) (h4 : t.2.2 = [(bf, blk cs tF (0, 0))] ++ K) {hs : List Chunk} : Row encB 1 (chunk ts :: hs) vb t.2.1.b := by
  refine (ho.row (hs := [])).mono fun b o h => ?_
  have hm := h.mem
  simp only [List.flatten_cons, List.flatten_nil, List.append_nil] at hm
  refine .here ?_
  unfold chunk
  exact List.mem_flatten.2 ⟨t.2.2, List.mem_map.2 ⟨t, ht, rfl⟩, by rw [h4]; exact List.mem_append_right _ hm⟩
theorem picks_snoc {fs : List Fr} {is : List Nat} {i k : Nat} {f : Fr} (hk : is[i]? = some k) (hf : fs[k]? = some f) : picks fs (is.take (i + 1)) = picks fs (is.take i) ++ [f] := by
  unfold picks; rw [take_succ hk, List.filterMap_append]; simp [hf]
theorem picks_drop {fs : List Fr} {is : List Nat} {i k : Nat} {f : Fr} (hk : is[i]? = some k) (hf : fs[k]? = some f) : picks fs (is.drop i) = f :: picks fs (is.drop (i + 1)) := by
  unfold picks; rw [drop_cons hk, List.filterMap_cons, hf]
theorem topLsn_snoc (l : List Fr) (f : Fr) : topLsn (l ++ [f]) = max (topLsn l) f.lsn := by unfold topLsn; rw [List.foldl_append]; rfl
theorem cleaned_snoc {fs : List Fr} {is : List Nat} {i k : Nat} (hk : is[i]? = some k) : cleaned fs (is.take (i + 1)) = (cleaned fs (is.take i)).modify k Fr.clean := by
  unfold cleaned; rw [take_succ hk, List.foldl_append]; rfl
theorem cleaned_length (fs : List Fr) (is : List Nat) : (cleaned fs is).length = fs.length := by
  unfold cleaned
  induction is generalizing fs with
  | nil => rfl
  | cons k is ih => rw [List.foldl_cons, ih, List.length_modify]
theorem frs_set {ts : List Tr} {k : Nat} {t t' : Tr} (ht : ts[k]? = some t) (h : t'.2.1 = t.2.1.clean) : frs (ts.set k t') = (frs ts).modify k Fr.clean := by
  unfold frs
  rw [List.map_set, h]
  apply List.ext_getElem?
  intro j
  rw [List.getElem?_modify, List.getElem?_set]
  by_cases hj : k = j
  · subst hj
    have hl : k < ts.length := (List.getElem?_eq_some_iff.1 ht).1
    rw [if_pos rfl, if_pos (by rw [List.length_map]; exact hl), List.getElem?_map, ht]
    simp
  · rw [if_neg hj]; simp [hj]
theorem ptrs_set {ts : List Tr} {k : Nat} {t t' : Tr} (ht : ts[k]? = some t) (h : t'.1 = t.1) : ptrs (ts.set k t') = ptrs ts := by
  unfold ptrs
  rw [List.map_set, h]
  apply List.ext_getElem?
  intro j
  rw [List.getElem?_set]
  by_cases hj : k = j
  · subst hj
    have hl : k < ts.length := (List.getElem?_eq_some_iff.1 ht).1
    rw [if_pos rfl, if_pos (by rw [List.length_map]; exact hl), List.getElem?_map, ht]; rfl
  · rw [if_neg hj]
theorem chunk_set_perm {ts : List Tr} {k : Nat} {t' : Tr} (hk : k < ts.length) {A K : Chunk} (h : t'.2.2 = A ++ K) : ((A ++ K) ++ chunk (cut ts k)).Perm (chunk (ts.set k t')) := by
  have := chunk_perm (set_perm (x := t') hk)
  rw [chunk_cons, h] at this
  exact this.symm
theorem chunk_get_perm {ts : List Tr} {k : Nat} {t : Tr} (hk : ts[k]? = some t) {A K : Chunk} (h : t.2.2 = A ++ K) : (chunk ts).Perm ((A ++ K) ++ chunk (cut ts k)) := by
  have := chunk_perm (cut_perm hk)
  rw [chunk_cons, h] at this
  exact this
theorem Sup.save_turn (s : Sup) (d : Dev) (at_ : Int) (b : List UInt8) : (s.save d at_ b).1.turn ≤ s.turn + 1 := by
  unfold Sup.save; split
  · exact Nat.le_succ _
  · exact supWrite_turn (Nat.le_succ _) (Nat.le_refl _)
theorem Log.write_turn (l : Log) (d : Dev) (to : Nat) : (l.write d to).1.turn ≤ l.sup.turn + 1 := by
  unfold Log.write; split
  · exact Nat.le_succ _
  · split
    · exact Nat.le_succ _
    · exact Sup.save_turn ..
theorem Log.force_turn (l : Log) (d : Dev) (to : Int) : (l.force d to).1.sup.turn ≤ l.sup.turn + 1 := by
  unfold Log.force; split
  · exact Nat.le_succ _
  · split
    · exact Nat.le_succ _
    · split
      · exact Log.write_turn ..
      · exact Log.write_turn ..
theorem poolClean_turn (fs : List Fr) (is : List Nat) (l : Log) (d : Dev) : (poolClean fs is l d).2.1.sup.turn ≤ l.sup.turn + 1 := by
  unfold poolClean
  split
  · exact Nat.le_succ _
  · split
    · exact Log.force_turn ..
    · split
      · exact Log.force_turn ..
      · split
        · exact Log.force_turn ..
        · exact Log.force_turn ..
theorem ptrs_take (ts : List Tr) (m : Nat) : ptrs (ts.take m) = (ptrs ts).take m := by unfold ptrs; rw [List.map_take]
theorem frs_take (ts : List Tr) (m : Nat) : frs (ts.take m) = (frs ts).take m := by unfold frs; rw [List.map_take]
theorem ptrs_cut (ts : List Tr) (i : Nat) : ptrs (cut ts i) = (ptrs ts).take i ++ (ptrs ts).drop (i + 1) := by unfold ptrs; rw [cut_map]; rfl
theorem frs_cut (ts : List Tr) (i : Nat) : frs (cut ts i) = cut (frs ts) i := by unfold frs; rw [cut_map]
theorem cut_last {α : Type} {l : List α} {i : Nat} (h : i + 1 < l.length) : (cut l i).getLast? = l.getLast? := by
  unfold cut
  rw [List.getLast?_append, List.getLast?_drop, if_neg (by omega)]
  cases hl : l.getLast? with
  | none => rw [List.getLast?_eq_none_iff] at hl; subst hl; simp at h
  | some x => rfl
theorem poolRoom_step {n k : Nat} {fs : List Fr} {l : Log} {d : Dev} {fs' : List Fr} {l' : Log} {d' : Dev} (h : roomStep fs l d = (fs', l', d', 0)) : poolRoom n (k + 1) fs l d = poolRoom n k fs' l' d' := by
  rw [poolRoom, h]; rfl
theorem poolRoom_fail {n k : Nat} {fs : List Fr} {l : Log} {d : Dev} (h : (roomStep fs l d).2.2.2 ≠ 0) : poolRoom n (k + 1) fs l d = roomStep fs l d := by
  rw [poolRoom, if_pos h]
end Go.Pl
