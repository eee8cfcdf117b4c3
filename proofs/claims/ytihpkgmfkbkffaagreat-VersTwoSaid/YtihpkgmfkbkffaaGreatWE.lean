/- Several texts in one. The steps of TreeAll. No program in sight. Two versions: what a transaction sees; cells that end. No program in sight. The document's book of two versions. No program in sight. The document's book of two versions, held against the cells. No program in sight. Writing and ending, held against the document's book. No program in sight. What writing comes to on a right book; what is told key by key and all together. No program in sight. Keys by letters; what one transaction alone writes. No program in sight. The beginning of the laws of two versions. No program in sight. What all see stays while transactions write; masks. No program in sight. Keys of one transaction, one behind the other: VersBusy. No program in sight. Two transactions that write unlike keys: VersTwo. No program in sight. The steps of the laws of two versions; numbers as floats. No program in sight. -/
import Derived.Test.YtihpkgmfkbkffaaGreatWD
import Derived.Laws.FloatBits
set_option linter.unusedVariables false
set_option linter.unusedSimpArgs false
set_option linter.unusedSectionVars false

section
namespace Go.Pl
open Go Go.Sx
structure TOp where
  kind : Int
  c : Cell
  key : ByteArray
  to : ByteArray
theorem filter_at {l : List Cell} {p : Cell → Bool} {j : Nat} {y : Cell} (h : l[j]? = some y) (hp : p y = true) : (l.filter p)[((l.take j).filter p).length]? = some y ∧ ((l.take (j + 1)).filter p).length = ((l.take j).filter p).length + 1 := by
  obtain ⟨hlt, rfl⟩ := List.getElem?_eq_some_iff.1 h
  constructor
  · conv => lhs; arg 1; rw [← List.take_append_drop j l, List.filter_append, List.drop_eq_getElem_cons hlt, List.filter_cons, if_pos hp]
    rw [List.getElem?_append_right (Nat.le_refl _), Nat.sub_self]; rfl
  · rw [List.take_add_one, h, Option.toList_some, List.filter_append, List.length_append, List.filter_cons, if_pos hp]; rfl
theorem filter_no {l : List Cell} {p : Cell → Bool} {j : Nat} {y : Cell} (h : l[j]? = some y) (hp : p y = false) : ((l.take (j + 1)).filter p).length = ((l.take j).filter p).length := by
  rw [List.take_add_one, h, Option.toList_some, List.filter_append, List.length_append, List.filter_cons, if_neg (by rw [hp]; simp)]; rfl
theorem filter_few (l : List Cell) (p : Cell → Bool) (j : Nat) : ((l.take j).filter p).length ≤ l.length := Nat.le_trans (List.length_filter_le _ _) (by rw [List.length_take]; omega)
theorem getC_fl {l : List Cell} (h : FlL l) (k : ByteArray) : ((getC l k).getD noCell).val.f < 2 ^ 64 ∧ ((getC l k).getD noCell).new.f < 2 ^ 64 := by
  cases hg : getC l k with
  | none => constructor <;> (show (0 : Nat) < 2 ^ 64; decide)
  | some c => exact h c (List.mem_of_find?_eq_some (show l.find? (fun c => decide (c.key = k)) = some c from hg))
end Go.Pl
end

section
namespace Go.Pl
open Go Go.Sx
abbrev Pair := ByteArray × Vl
def encPair (x : Pair) : List Value := .string x.1 :: encVl x.2
def seeC (c : Cell) (t : Int) : Vl := if 0 < t ∧ c.txn = t then c.new else c.val
def seeK (l : List Cell) (t : Int) (k : ByteArray) : Vl := match getC l k with | some c => seeC c t | none => noVl
def pairOf (t : Int) (c : Cell) : Option Pair := if (seeC c t).kind = 0 then none else some (c.key, seeC c t)
def rangeL (l : List Cell) (t : Int) (a b : ByteArray) : List Pair := (l.filter fun c => keyIn c.key a b).filterMap (pairOf t)
def undoC (c : Cell) : Cell × Bool := if c.val.kind = 0 then (noCell, false) else ({ c with txn := 0, new := noVl }, true)
def commitC (c : Cell) : Cell × Bool := undoC (if 0 < c.txn then { c with val := c.new } else c)
def endF (p : Int → Bool) (how : Cell → Cell × Bool) (c : Cell) : Option Cell := if c.txn ≠ 0 ∧ p c.txn = true then (if (how c).2 = true then some (how c).1 else none) else some c
def endL (l : List Cell) (p : Int → Bool) (how : Cell → Cell × Bool) : List Cell := l.filterMap (endF p how)
def endN (l : List Cell) (p : Int → Bool) : Nat := (l.filter fun c => decide (c.txn ≠ 0 ∧ p c.txn = true)).length
/-- how a cell may end: no longer than it was -/
def HowOk (how : Cell → Cell × Bool) : Prop := ∀ c, mayCell c = true → c.txn ≠ 0 → (c.val.f < 2 ^ 64 ∧ c.new.f < 2 ^ 64) → (how c).2 = true →
  (how c).1.key = c.key ∧ mayCell (how c).1 = true ∧ ((how c).1.val.f < 2 ^ 64 ∧ (how c).1.new.f < 2 ^ 64) ∧ (cellBytes (how c).1).length ≤ (cellBytes c).length
theorem may_parts {c : Cell} (h : mayCell c = true) : mayKey c.key = true ∧ mayVl c.val = true ∧ mayVl c.new = true ∧ 0 ≤ c.txn ∧ c.txn ≤ 1099511627776 ∧ (0 < c.txn ∨ (c.new.kind = 0 ∧ c.val.kind ≠ 0)) := by
  unfold mayCell at h
  simp only [Bool.and_eq_true, Bool.or_eq_true, decide_eq_true_eq, Bool.not_eq_true', decide_eq_false_iff_not] at h
  obtain ⟨⟨⟨⟨⟨h1, h2⟩, h3⟩, h4⟩, h5⟩, h6⟩ := h
  exact ⟨h1, h2, h3, h4, h5, h6⟩
theorem may_make {c : Cell} (h1 : mayKey c.key = true) (h2 : mayVl c.val = true) (h3 : mayVl c.new = true) (h4 : 0 ≤ c.txn) (h5 : c.txn ≤ 1099511627776) (h6 : 0 < c.txn ∨ (c.new.kind = 0 ∧ c.val.kind ≠ 0)) : mayCell c = true := by
  unfold mayCell
  rw [h1, h2, h3, decide_eq_true h4, decide_eq_true h5]
  rcases h6 with h | ⟨ha, hb⟩
  · rw [decide_eq_true h]; rfl
  · rw [decide_eq_true ha, decide_eq_false hb]; simp
theorem noVl_may : mayVl noVl = true := by decide
theorem put0_len : (put 0).length = 1 := put_len1 (by omega) (by omega)
theorem undo_ok : HowOk undoC := fun c hm ht hf h => by
  obtain ⟨h1, h2, h3, h4, h5, h6⟩ := may_parts hm
  unfold undoC at h ⊢
  by_cases hk : c.val.kind = 0
  · rw [if_pos hk] at h; cases h
  · rw [if_neg hk]
    refine ⟨rfl, may_make h1 h2 noVl_may (Int.le_refl 0) (show (0 : Int) ≤ 1099511627776 by decide) (.inr ⟨rfl, hk⟩), ⟨hf.1, by show 0 < 2 ^ 64; decide⟩, ?_⟩
    unfold cellBytes
    dsimp only
    have := put_length c.txn
    simp only [List.length_append, put0_len, if_neg (show ¬ (0 : Int) < 0 by omega), List.length_nil]
    omega
theorem commit_ok : HowOk commitC := fun c hm ht hf h => by
  obtain ⟨h1, h2, h3, h4, h5, h6⟩ := may_parts hm
  have ht' : 0 < c.txn := by omega
  unfold commitC at h ⊢
  rw [if_pos ht'] at h ⊢
  unfold undoC at h ⊢
  dsimp only at h ⊢
  by_cases hk : c.new.kind = 0
  · rw [if_pos hk] at h; cases h
  · rw [if_neg hk]
    refine ⟨rfl, may_make h1 h3 noVl_may (Int.le_refl 0) (show (0 : Int) ≤ 1099511627776 by decide) (.inr ⟨rfl, hk⟩), ⟨hf.2, by show 0 < 2 ^ 64; decide⟩, ?_⟩
    unfold cellBytes
    dsimp only
    have := put_length c.txn
    simp only [List.length_append, put0_len, if_neg (show ¬ (0 : Int) < 0 by omega), if_pos ht', List.length_nil]
    omega
/-! ### one cell behind the other -/
def midE (l : List Cell) (F : Cell → Option Cell) (i : Nat) : List Cell := (l.take i).filterMap F ++ l.drop i
def KeepsKey (l : List Cell) (F : Cell → Option Cell) : Prop := ∀ c ∈ l, ∀ x, F c = some x → x.key = c.key
theorem keys_sub {F : Cell → Option Cell} : ∀ {l : List Cell}, KeepsKey l F → (keysOf (l.filterMap F)).Sublist (keysOf l)
  | [], _ => List.Sublist.refl _
  | c :: l, h => by
    have ih := keys_sub (F := F) (l := l) fun d hd => h d (by simp [hd])
    rw [List.filterMap_cons]
    cases hF : F c with
    | none => exact List.Sublist.cons _ ih
    | some x =>
      have := h c (by simp) x hF
      show (x.key :: keysOf (l.filterMap F)).Sublist (c.key :: keysOf l)
      rw [this]; exact List.Sublist.cons_cons _ ih
theorem mid_rising {l : List Cell} {F : Cell → Option Cell} (hr : rising (keysOf l)) (hk : KeepsKey l F) (i : Nat) : rising (keysOf (midE l F i)) := by
  refine hr.sublist ?_
  have e : keysOf l = keysOf (l.take i) ++ keysOf (l.drop i) := by unfold keysOf; rw [← List.map_append, List.take_append_drop]
  rw [e]
  show (List.map Cell.key ((l.take i).filterMap F ++ l.drop i)).Sublist _
  rw [List.map_append]
  exact List.Sublist.append (keys_sub fun c hc => hk c (List.mem_of_mem_take hc)) (List.Sublist.refl _)
theorem mid_cons {l : List Cell} {F : Cell → Option Cell} {i : Nat} {c : Cell} (hc : l[i]? = some c) : midE l F i = (l.take i).filterMap F ++ c :: l.drop (i + 1) := by
  obtain ⟨hlt, rfl⟩ := List.getElem?_eq_some_iff.1 hc
  unfold midE; rw [List.drop_eq_getElem_cons hlt]
theorem mid_next {l : List Cell} {F : Cell → Option Cell} {i : Nat} {c : Cell} (hc : l[i]? = some c) : midE l F (i + 1) = ((l.take i).filterMap F ++ (F c).toList) ++ l.drop (i + 1) := by
  unfold midE
  rw [List.take_add_one, hc, Option.toList_some, List.filterMap_append]
  rw [show List.filterMap F [c] = (F c).toList by rw [List.filterMap_cons]; cases F c <;> rfl]
theorem midE_at {l : List Cell} {F : Cell → Option Cell} {i : Nat} {c : Cell} (hc : l[i]? = some c) : (midE l F i)[((l.take i).filterMap F).length]? = some c := by
  rw [mid_cons hc, List.getElem?_append_right (Nat.le_refl _), Nat.sub_self]; rfl
theorem mid_put {l : List Cell} {F : Cell → Option Cell} {i : Nat} {c x : Cell} (hr : rising (keysOf l)) (hk : KeepsKey l F) (hc : l[i]? = some c) (hx : F c = some x) : insC (midE l F i) x = midE l F (i + 1) := by
  rw [insC_set (mid_rising hr hk i) (midE_at hc) (hk c (List.mem_of_getElem? hc) x hx), mid_next hc, mid_cons hc, hx, List.set_append_right _ _ (Nat.le_refl _), Nat.sub_self]
  simp
theorem mid_cut {l : List Cell} {F : Cell → Option Cell} {i : Nat} {c : Cell} (hr : rising (keysOf l)) (hk : KeepsKey l F) (hc : l[i]? = some c) (hx : F c = none) : cutC (midE l F i) c.key = midE l F (i + 1) := by
  have h := mid_rising hr hk i
  rw [mid_next hc, hx, Option.toList_none, List.append_nil]
  rw [mid_cons hc] at h ⊢
  have h' : rising (keysOf ((l.take i).filterMap F) ++ c.key :: keysOf (l.drop (i + 1))) := by
    have : keysOf ((l.take i).filterMap F ++ c :: l.drop (i + 1)) = keysOf ((l.take i).filterMap F) ++ c.key :: keysOf (l.drop (i + 1)) := by unfold keysOf; rw [List.map_append]; rfl
    rw [← this]; exact h
  obtain ⟨_, h2, h3⟩ := List.pairwise_append.1 h'
  have h4 := (List.pairwise_cons.1 h2).1
  unfold cutC
  rw [List.filter_append, List.filter_cons, if_neg (by simp)]
  rw [List.filter_eq_self.2 fun y hy => ?_, List.filter_eq_self.2 fun y hy => ?_]
  · exact decide_eq_true fun e => by have := h4 y.key (List.mem_map.2 ⟨y, hy, rfl⟩); rw [e, kLt_irrefl] at this; cases this
  · exact decide_eq_true fun e => by have := h3 y.key (List.mem_map.2 ⟨y, hy, rfl⟩) c.key (by simp); rw [e, kLt_irrefl] at this; cases this
theorem mid_skip {l : List Cell} {F : Cell → Option Cell} {i : Nat} {c : Cell} (hc : l[i]? = some c) (hx : F c = some c) : midE l F (i + 1) = midE l F i := by
  rw [mid_next hc, mid_cons hc, hx]; simp
theorem mid_all (l : List Cell) (F : Cell → Option Cell) : midE l F l.length = l.filterMap F := by unfold midE; rw [List.take_length, List.drop_length, List.append_nil]
end Go.Pl
end

section
namespace Go.Pl
open Go Go.Sx
/-! ### pairs in order -/
def keysP (d : List Pair) : List ByteArray := d.map Prod.fst
def valP (d : List Pair) (k : ByteArray) : Option Vl := (d.find? fun p => decide (p.1 = k)).map Prod.snd
def midS (k : ByteArray) (v : Vl) (st : List Pair × Bool) (x : Pair) : List Pair × Bool := if st.2 = false ∧ kLt x.1 k = false then (st.1 ++ [(k, v)], true) else st
def stepS (k : ByteArray) (v : Vl) (st : List Pair × Bool) (x : Pair) : List Pair × Bool := if x.1 ≠ k then ((midS k v st x).1 ++ [x], (midS k v st x).2) else midS k v st x
theorem midS_len (k : ByteArray) (v : Vl) (st : List Pair × Bool) (x : Pair) : (midS k v st x).1.length ≤ st.1.length + 1 := by
  unfold midS; split <;> simp
theorem stepS_two (k : ByteArray) (v : Vl) (st : List Pair × Bool) (x : Pair) : (stepS k v st x).2 = (midS k v st x).2 := by unfold stepS; split <;> rfl
def setTo (d : List Pair) (k : ByteArray) (v : Vl) (i : Nat) : List Pair × Bool := (d.take i).foldl (stepS k v) ([], decide (v.kind = 0))
def setP (d : List Pair) (k : ByteArray) (v : Vl) : List Pair := if (setTo d k v d.length).2 = false then (setTo d k v d.length).1 ++ [(k, v)] else (setTo d k v d.length).1
theorem setTo_succ {d : List Pair} {k : ByteArray} {v : Vl} {x : Pair} {i : Nat} (h : d[i]? = some x) : setTo d k v (i + 1) = stepS k v (setTo d k v i) x := by
  unfold setTo
  rw [List.take_add_one, h, Option.toList_some, List.foldl_append]; rfl
theorem foldS_len {k : ByteArray} {v : Vl} : ∀ (d : List Pair) (st : List Pair × Bool), (d.foldl (stepS k v) st).1.length ≤ st.1.length + 2 * d.length
  | [], st => by simp
  | x :: d, st => by
    have := foldS_len (k := k) (v := v) d (stepS k v st x)
    have h2 : (stepS k v st x).1.length ≤ st.1.length + 2 := by
      have := midS_len k v st x
      unfold stepS
      split <;> simp <;> omega
    rw [List.foldl_cons, List.length_cons]; omega
theorem setTo_len (d : List Pair) (k : ByteArray) (v : Vl) (i : Nat) : (setTo d k v i).1.length ≤ 2 * d.length := by
  have := foldS_len (k := k) (v := v) (d.take i) ([], decide (v.kind = 0))
  have h : (d.take i).length ≤ d.length := by rw [List.length_take]; omega
  unfold setTo
  simp only [List.length_nil] at this; omega
theorem foldS_done {k : ByteArray} {v : Vl} : ∀ {d : List Pair} {out : List Pair}, d.foldl (stepS k v) (out, true) = (out ++ d.filter (fun x => decide (x.1 ≠ k)), true)
  | [], out => by simp
  | x :: d, out => by
    rw [List.foldl_cons]
    by_cases h : x.1 = k
    · have e : stepS k v (out, true) x = (out, true) := by simp [stepS, midS, h]
      rw [e, foldS_done, List.filter_cons, if_neg (by simp [h])]
    · have e : stepS k v (out, true) x = (out ++ [x], true) := by simp [stepS, midS, h]
      rw [e, foldS_done, List.filter_cons, if_pos (decide_eq_true h)]; simp
theorem foldS_is {k : ByteArray} {v : Vl} : ∀ {d : List Pair} {out : List Pair}, rising (keysP d) →
    (if (d.foldl (stepS k v) (out, false)).2 = false then (d.foldl (stepS k v) (out, false)).1 ++ [(k, v)] else (d.foldl (stepS k v) (out, false)).1) = out ++ (d.filter (fun x => kLt x.1 k) ++ (k, v) :: d.filter (fun x => kLt k x.1))
  | [], out, _ => by simp
  | x :: d, out, h => by
    have h' := List.pairwise_cons.1 h
    have hgt : ∀ y ∈ d, kLt x.1 y.1 = true := fun y hy => h'.1 _ (List.mem_map.2 ⟨y, hy, rfl⟩)
    rw [List.foldl_cons, List.filter_cons, List.filter_cons]
    rcases kLt_total x.1 k with h1 | h1 | h1
    · have h2 : x.1 ≠ k := fun e => by rw [e, kLt_irrefl] at h1; cases h1
      have e : stepS k v (out, false) x = (out ++ [x], false) := by simp [stepS, midS, h1, h2]
      rw [e, foldS_is h'.2, if_pos h1, if_neg (by rw [kLt_asymm h1]; simp)]
      simp
    · have e : stepS k v (out, false) x = (out ++ [(k, v)], true) := by simp [stepS, midS, h1, kLt_irrefl]
      have hl : ∀ y ∈ d, kLt k y.1 = true := fun y hy => by rw [← h1]; exact hgt y hy
      have hne : ∀ y ∈ d, y.1 ≠ k := fun y hy e => by have := hl y hy; rw [e, kLt_irrefl] at this; cases this
      have f1 : d.filter (fun x => kLt x.1 k) = [] := List.filter_eq_nil_iff.2 fun y hy => by rw [kLt_asymm (hl y hy)]; simp
      have f2 : d.filter (fun x => kLt k x.1) = d := List.filter_eq_self.2 hl
      have f3 : d.filter (fun x => decide (x.1 ≠ k)) = d := List.filter_eq_self.2 fun y hy => decide_eq_true (hne y hy)
      rw [e, foldS_done, if_neg (by simp), if_neg (by rw [h1, kLt_irrefl]; simp), if_neg (by rw [h1, kLt_irrefl]; simp), f1, f2, f3]
      simp
    · have h2 : x.1 ≠ k := fun e => by rw [e, kLt_irrefl] at h1; cases h1
      have e : stepS k v (out, false) x = (out ++ [(k, v), x], true) := by simp [stepS, midS, kLt_asymm h1, h2]
      have hl : ∀ y ∈ d, kLt k y.1 = true := fun y hy => kLt_trans h1 (hgt y hy)
      have hne : ∀ y ∈ d, y.1 ≠ k := fun y hy e => by have := hl y hy; rw [e, kLt_irrefl] at this; cases this
      have f1 : d.filter (fun x => kLt x.1 k) = [] := List.filter_eq_nil_iff.2 fun y hy => by rw [kLt_asymm (hl y hy)]; simp
      have f2 : d.filter (fun x => kLt k x.1) = d := List.filter_eq_self.2 hl
      have f3 : d.filter (fun x => decide (x.1 ≠ k)) = d := List.filter_eq_self.2 fun y hy => decide_eq_true (hne y hy)
      rw [e, foldS_done, if_neg (by simp), if_neg (by rw [kLt_asymm h1]; simp), if_pos h1, f1, f2, f3]
      simp
theorem setP_none {d : List Pair} {k : ByteArray} {v : Vl} (h : v.kind = 0) : setP d k v = d.filter (fun x => decide (x.1 ≠ k)) := by
  unfold setP setTo
  rw [List.take_length, decide_eq_true h, foldS_done, if_neg (by simp)]; simp
theorem setP_some {d : List Pair} {k : ByteArray} {v : Vl} (hr : rising (keysP d)) (h : v.kind ≠ 0) : setP d k v = d.filter (fun x => kLt x.1 k) ++ (k, v) :: d.filter (fun x => kLt k x.1) := by
  have := foldS_is (k := k) (v := v) (out := []) hr
  unfold setP setTo
  rw [List.take_length, decide_eq_false h, this]; simp
theorem setP_mem {d : List Pair} {k : ByteArray} {v : Vl} (hr : rising (keysP d)) (z : Pair) : z ∈ setP d k v ↔ (z = (k, v) ∧ v.kind ≠ 0) ∨ (z ∈ d ∧ z.1 ≠ k) := by
  by_cases h : v.kind = 0
  · rw [setP_none h, List.mem_filter]; simp [h]
  · rw [setP_some hr h, List.mem_append, List.mem_cons, List.mem_filter, List.mem_filter]
    constructor
    · rintro (⟨h1, h2⟩ | h1 | ⟨h1, h2⟩)
      · exact .inr ⟨h1, kLt_ne h2⟩
      · exact .inl ⟨h1, h⟩
      · exact .inr ⟨h1, fun e => by rw [e, kLt_irrefl] at h2; cases h2⟩
    · rintro (⟨h1, _⟩ | ⟨h1, h2⟩)
      · exact .inr (.inl h1)
      · rcases kLt_total z.1 k with h3 | h3 | h3
        · exact .inl ⟨h1, h3⟩
        · exact absurd h3 h2
        · exact .inr (.inr ⟨h1, h3⟩)
theorem setP_rising {d : List Pair} {k : ByteArray} {v : Vl} (hr : rising (keysP d)) : rising (keysP (setP d k v)) := by
  by_cases h : v.kind = 0
  · rw [setP_none h]; exact hr.sublist (List.filter_sublist.map _)
  · rw [setP_some hr h]
    unfold keysP rising
    rw [List.map_append, List.pairwise_append, List.map_cons, List.pairwise_cons]
    refine ⟨hr.sublist (List.filter_sublist.map _), ⟨fun q hq => ?_, hr.sublist (List.filter_sublist.map _)⟩, fun a ha b hb => ?_⟩
    · obtain ⟨y, hy, rfl⟩ := List.mem_map.1 hq
      exact (List.mem_filter.1 hy).2
    · obtain ⟨x, hx, rfl⟩ := List.mem_map.1 ha
      have hx := (List.mem_filter.1 hx).2
      rcases List.mem_cons.1 hb with rfl | hb
      · exact hx
      · obtain ⟨y, hy, rfl⟩ := List.mem_map.1 hb
        exact kLt_trans hx (List.mem_filter.1 hy).2
theorem pairs_ext : ∀ {a b : List Pair}, rising (keysP a) → rising (keysP b) → (∀ c, c ∈ a ↔ c ∈ b) → a = b
  | [], [], _, _, _ => rfl
  | [], y :: b, _, _, h => by have := (h y).2 (by simp); cases this
  | x :: a, [], _, _, h => by have := (h x).1 (by simp); cases this
  | x :: a, y :: b, ha, hb, h => by
    have ha' := List.pairwise_cons.1 ha
    have hb' := List.pairwise_cons.1 hb
    have hxa : ∀ z ∈ a, kLt x.1 z.1 = true := fun z hz => ha'.1 _ (List.mem_map.2 ⟨z, hz, rfl⟩)
    have hyb : ∀ z ∈ b, kLt y.1 z.1 = true := fun z hz => hb'.1 _ (List.mem_map.2 ⟨z, hz, rfl⟩)
    have e : x = y := by
      rcases List.mem_cons.1 ((h x).1 (by simp)) with h1 | h1
      · exact h1
      · rcases List.mem_cons.1 ((h y).2 (by simp)) with h2 | h2
        · exact h2.symm
        · have := kLt_trans (hyb x h1) (hxa y h2); rw [kLt_irrefl] at this; cases this
    subst e
    congr 1
    refine pairs_ext ha'.2 hb'.2 fun c => ⟨fun hc => ?_, fun hc => ?_⟩
    · rcases List.mem_cons.1 ((h c).1 (by simp [hc])) with h1 | h1
      · have := hxa c hc; rw [h1, kLt_irrefl] at this; cases this
      · exact h1
    · rcases List.mem_cons.1 ((h c).2 (by simp [hc])) with h1 | h1
      · have := hyb c hc; rw [h1, kLt_irrefl] at this; cases this
      · exact h1
theorem valP_mem {d : List Pair} (hr : rising (keysP d)) {k : ByteArray} {v : Vl} : valP d k = some v ↔ (k, v) ∈ d := by
  unfold valP
  rw [Option.map_eq_some_iff]
  constructor
  · rintro ⟨p, h1, rfl⟩
    have hm := List.mem_of_find?_eq_some h1
    have hk : p.1 = k := by simpa using List.find?_some h1
    subst hk; exact hm
  · intro h
    cases hf : d.find? fun p => decide (p.1 = k) with
    | none => have := List.find?_eq_none.1 hf _ h; simp at this
    | some p =>
      have hm := List.mem_of_find?_eq_some hf
      have hk : p.1 = k := by simpa using List.find?_some hf
      have hn := rising_nodup hr
      refine ⟨p, rfl, ?_⟩
      have : p = (k, v) := by
        obtain ⟨i, hi⟩ := List.getElem?_of_mem hm
        obtain ⟨j, hj⟩ := List.getElem?_of_mem h
        have e : i = j := by
          rcases Nat.lt_trichotomy i j with h1 | h1 | h1
          · have := lt_at hr h1 (by unfold keysP; rw [List.getElem?_map, hi]; rfl) (by unfold keysP; rw [List.getElem?_map, hj]; rfl)
            rw [hk, kLt_irrefl] at this; cases this
          · exact h1
          · have := lt_at hr h1 (by unfold keysP; rw [List.getElem?_map, hj]; rfl) (by unfold keysP; rw [List.getElem?_map, hi]; rfl)
            rw [hk, kLt_irrefl] at this; cases this
        subst e; rw [hi] at hj; injection hj
      rw [this]
theorem valP_none {d : List Pair} {k : ByteArray} : valP d k = none ↔ ∀ p ∈ d, p.1 ≠ k := by
  unfold valP
  rw [Option.map_eq_none_iff, List.find?_eq_none]
  simp
theorem valP_set {d : List Pair} (hr : rising (keysP d)) {k q : ByteArray} {v : Vl} : valP (setP d k v) q = if q = k then (if v.kind = 0 then none else some v) else valP d q := by
  by_cases hq : q = k
  · subst hq
    rw [if_pos rfl]
    by_cases hv : v.kind = 0
    · rw [if_pos hv, valP_none]
      intro p hp
      rcases (setP_mem hr p).1 hp with ⟨_, h⟩ | ⟨_, h⟩
      · exact absurd hv h
      · exact h
    · rw [if_neg hv, valP_mem (setP_rising hr)]
      exact (setP_mem hr _).2 (.inl ⟨rfl, hv⟩)
  · rw [if_neg hq]
    cases hd : valP d q with
    | none =>
      rw [valP_none] at hd ⊢
      intro p hp
      rcases (setP_mem hr p).1 hp with ⟨h, _⟩ | ⟨h, _⟩
      · rw [h]; exact fun e => hq e.symm
      · exact hd p h
    | some w =>
      rw [valP_mem hr] at hd
      rw [valP_mem (setP_rising hr)]
      exact (setP_mem hr _).2 (.inr ⟨hd, hq⟩)
end Go.Pl
end

section
namespace Go.Pl
open Go Go.Sx
structure OwnV where
  txn : Int
  key : ByteArray
  val : Vl
def ownAt (ow : List OwnV) (k : ByteArray) : Option OwnV := ow.find? fun o => decide (o.key = k)
def seeStep (t : Int) (d : List Pair) (o : OwnV) : List Pair := if 0 < t ∧ o.txn = t then setP d o.key o.val else d
def sees (d : List Pair) (ow : List OwnV) (t : Int) : List Pair := ow.foldl (seeStep t) d
theorem seeStep_rising {t : Int} {d : List Pair} {o : OwnV} (h : rising (keysP d)) : rising (keysP (seeStep t d o)) := by
  unfold seeStep; split
  · exact setP_rising h
  · exact h
theorem sees_rising {t : Int} : ∀ {ow : List OwnV} {d : List Pair}, rising (keysP d) → rising (keysP (sees d ow t))
  | [], _, h => h
  | o :: ow, d, h => sees_rising (ow := ow) (d := seeStep t d o) (seeStep_rising h)
theorem ownAt_some {ow : List OwnV} {k : ByteArray} {o : OwnV} (h : ownAt ow k = some o) : o ∈ ow ∧ o.key = k :=
  ⟨List.mem_of_find?_eq_some h, by have := List.find?_some (p := fun o : OwnV => decide (o.key = k)) h; simpa using this⟩
theorem ownAt_none {ow : List OwnV} {k : ByteArray} : ownAt ow k = none ↔ ∀ o ∈ ow, o.key ≠ k := by
  unfold ownAt; rw [List.find?_eq_none]; simp
theorem ownAt_mem {ow : List OwnV} (hn : (ow.map OwnV.key).Nodup) {o : OwnV} (h : o ∈ ow) : ownAt ow o.key = some o := by
  induction ow with
  | nil => cases h
  | cons x ow ih =>
    have hn' := List.nodup_cons.1 (by simpa using hn : (x.key :: ow.map OwnV.key).Nodup)
    unfold ownAt
    rw [List.find?_cons]
    rcases List.mem_cons.1 h with rfl | h
    · simp
    · have hne : x.key ≠ o.key := fun e => hn'.1 (by rw [e]; exact List.mem_map.2 ⟨o, h, rfl⟩)
      simp only [decide_eq_false hne]
      exact ih hn'.2 h
theorem sees_val {t : Int} {k : ByteArray} : ∀ {ow : List OwnV} {d : List Pair}, rising (keysP d) → (ow.map OwnV.key).Nodup →
    valP (sees d ow t) k = match ownAt ow k with | some o => if 0 < t ∧ o.txn = t then (if o.val.kind = 0 then none else some o.val) else valP d k | none => valP d k
  | [], d, _, _ => rfl
  | o :: ow, d, h, hn => by
    have hn' := List.nodup_cons.1 (by simpa using hn : (o.key :: ow.map OwnV.key).Nodup)
    have ih := sees_val (t := t) (k := k) (ow := ow) (d := seeStep t d o) (seeStep_rising h) hn'.2
    show valP (sees (seeStep t d o) ow t) k = _
    rw [ih]
    by_cases hk : o.key = k
    · have h1 : ownAt ow k = none := ownAt_none.2 fun x hx e => hn'.1 (by rw [hk, ← e]; exact List.mem_map.2 ⟨x, hx, rfl⟩)
      have h2 : ownAt (o :: ow) k = some o := by unfold ownAt; rw [List.find?_cons]; simp [hk]
      rw [h1, h2]
      dsimp only
      unfold seeStep
      by_cases hc : 0 < t ∧ o.txn = t
      · rw [if_pos hc, if_pos hc, valP_set h, if_pos hk.symm]
      · rw [if_neg hc, if_neg hc]
    · have h2 : ownAt (o :: ow) k = ownAt ow k := by unfold ownAt; rw [List.find?_cons]; simp [hk]
      have h3 : valP (seeStep t d o) k = valP d k := by
        unfold seeStep; split
        · rw [valP_set h, if_neg fun e => hk e.symm]
        · rfl
      rw [h2, h3]
/-- a key's cell -/
def cellFor (d : List Pair) (ow : List OwnV) (k : ByteArray) : Option Cell := match ownAt ow k with
  | some o => some ⟨k, (valP d k).getD noVl, o.txn, o.val⟩
  | none => (valP d k).map fun v => ⟨k, v, 0, noVl⟩
/-- the book of those cells -/
structure BkL (d : List Pair) (ow : List OwnV) (l : List Cell) : Prop where
  rise : rising (keysP d)
  once : (ow.map OwnV.key).Nodup
  dk : ∀ p ∈ d, p.2.kind ≠ 0
  own : ∀ o ∈ ow, 0 < o.txn
  lr : rising (keysOf l)
  good : ∀ c ∈ l, mayCell c = true
  cell : ∀ k, getC l k = cellFor d ow k
theorem vl_none {v : Vl} (h : mayVl v = true) (hk : v.kind = 0) : v = noVl := by
  unfold mayVl at h
  rw [if_pos hk] at h
  simp only [Bool.and_eq_true, decide_eq_true_eq] at h
  obtain ⟨a, b, c⟩ := v
  dsimp only at hk h
  rw [hk, h.1, h.2]; rfl
theorem getC_mem {l : List Cell} (hr : rising (keysOf l)) {c : Cell} : c ∈ l ↔ getC l c.key = some c := by
  constructor
  · intro h; exact (getC_is hr (o := some c) ⟨h, rfl⟩).symm
  · intro h; exact List.mem_of_find?_eq_some (show l.find? (fun x => decide (x.key = c.key)) = some c from h)
theorem getC_key {l : List Cell} {k : ByteArray} {c : Cell} (h : getC l k = some c) : c ∈ l ∧ c.key = k :=
  ⟨List.mem_of_find?_eq_some (show l.find? (fun x => decide (x.key = k)) = some c from h), by have := List.find?_some (p := fun x : Cell => decide (x.key = k)) h; simpa using this⟩
theorem BkL.see {d : List Pair} {ow : List OwnV} {l : List Cell} (h : BkL d ow l) (t : Int) (k : ByteArray) : seeK l t k = (valP (sees d ow t) k).getD noVl := by
  have hc := h.cell k
  rw [sees_val h.rise h.once]
  unfold seeK
  unfold cellFor at hc
  cases ho : ownAt ow k with
  | none =>
    rw [ho] at hc
    dsimp only at hc ⊢
    cases hv : valP d k with
    | none => rw [hv] at hc; rw [hc]; rfl
    | some v =>
      rw [hv] at hc
      rw [show getC l k = some ⟨k, v, 0, noVl⟩ from hc]
      show seeC _ t = v
      unfold seeC
      rw [if_neg (by dsimp only; omega)]
  | some o =>
    rw [ho] at hc
    dsimp only at hc ⊢
    rw [hc]
    show seeC _ t = _
    unfold seeC
    dsimp only
    by_cases ht : 0 < t ∧ o.txn = t
    · rw [if_pos ht, if_pos ht]
      by_cases hk : o.val.kind = 0
      · rw [if_pos hk]
        have hg := h.good _ (getC_key hc).1
        exact vl_none (may_parts hg).2.2.1 hk
      · rw [if_neg hk]; rfl
    · rw [if_neg ht, if_neg ht]
theorem range_keys {t : Int} : ∀ {l : List Cell}, (keysP (l.filterMap (pairOf t))).Sublist (keysOf l)
  | [] => List.Sublist.refl _
  | c :: l => by
    have ih := range_keys (t := t) (l := l)
    rw [List.filterMap_cons]
    cases hF : pairOf t c with
    | none => exact List.Sublist.cons _ ih
    | some x =>
      have : x.1 = c.key := by unfold pairOf at hF; split at hF <;> cases hF; rfl
      show (x.1 :: keysP (l.filterMap (pairOf t))).Sublist (c.key :: keysOf l)
      rw [this]; exact List.Sublist.cons_cons _ ih
theorem BkL.range {d : List Pair} {ow : List OwnV} {l : List Cell} (h : BkL d ow l) (t : Int) (a b : ByteArray) : rangeL l t a b = (sees d ow t).filter fun p => keyIn p.1 a b := by
  have hs := sees_rising (t := t) (ow := ow) h.rise
  refine pairs_ext ?_ ?_ fun p => ?_
  · unfold rangeL
    exact (h.lr.sublist (List.filter_sublist.map _)).sublist range_keys
  · exact hs.sublist (List.filter_sublist.map _)
  · obtain ⟨k, v⟩ := p
    rw [List.mem_filter, ← valP_mem hs]
    have hsee := h.see t k
    unfold rangeL
    rw [List.mem_filterMap]
    constructor
    · rintro ⟨c, hc, hp⟩
      obtain ⟨hcl, hin⟩ := List.mem_filter.1 hc
      unfold pairOf at hp
      split at hp
      · cases hp
      · rename_i hk
        injection hp with hp
        injection hp with h1 h2
        subst h1 h2
        refine ⟨?_, hin⟩
        unfold seeK at hsee
        rw [(getC_mem h.lr).1 hcl] at hsee
        dsimp only at hsee
        cases hv : valP (sees d ow t) c.key with
        | none => rw [hv] at hsee; rw [hsee] at hk; exact absurd rfl hk
        | some w => rw [hv] at hsee; rw [hsee]; rfl
    · rintro ⟨hv, hin⟩
      rw [hv] at hsee
      have hvk : v.kind ≠ 0 := by
        rw [sees_val h.rise h.once] at hv
        have hd : valP d k = some v → v.kind ≠ 0 := fun e => h.dk _ ((valP_mem h.rise).1 e)
        cases ho : ownAt ow k with
        | none => rw [ho] at hv; exact hd hv
        | some o =>
          rw [ho] at hv
          dsimp only at hv
          split at hv
          · split at hv
            · cases hv
            · rename_i h1; injection hv with hv; rw [← hv]; exact h1
          · exact hd hv
      unfold seeK at hsee
      cases hg : getC l k with
      | none => rw [hg] at hsee; rw [show v = noVl from hsee.symm] at hvk; exact absurd rfl hvk
      | some c =>
        rw [hg] at hsee
        dsimp only at hsee
        obtain ⟨h1, h2⟩ := getC_key hg
        refine ⟨c, List.mem_filter.2 ⟨h1, by rw [h2]; exact hin⟩, ?_⟩
        unfold pairOf
        rw [if_neg (by rw [hsee]; exact hvk), hsee, h2]; rfl
end Go.Pl
end

section
namespace Go.Pl
open Go Go.Sx
theorem getC_ins {l : List Cell} (hr : rising (keysOf l)) {x : Cell} (k : ByteArray) : getC (insC l x) k = if k = x.key then some x else getC l k := by
  have hr2 := insC_rising hr x
  by_cases hk : k = x.key
  · subst hk
    rw [if_pos rfl]
    exact (getC_mem hr2).1 ((insC_mem hr).2 (.inl rfl))
  · rw [if_neg hk]
    cases hg : getC l k with
    | none =>
      refine getC_not fun c hc e => ?_
      rcases (insC_mem hr).1 hc with h | ⟨h, _⟩
      · exact hk (by rw [← e, h])
      · have := (getC_mem hr).1 h; rw [e, hg] at this; cases this
    | some c =>
      obtain ⟨h1, h2⟩ := getC_key hg
      have := (getC_mem hr2).1 ((insC_mem hr).2 (.inr ⟨h1, by rw [h2]; exact hk⟩))
      rw [h2] at this; exact this
theorem getC_cut {l : List Cell} (hr : rising (keysOf l)) (k q : ByteArray) : getC (cutC l k) q = if q = k then none else getC l q := by
  by_cases hq : q = k
  · rw [if_pos hq]
    exact getC_not fun c hc e => ((cutC_is l k c).1 hc).2 (by rw [e, hq])
  · rw [if_neg hq]
    cases hg : getC l q with
    | none =>
      refine getC_not fun c hc e => ?_
      have := (getC_mem hr).1 ((cutC_is l k c).1 hc).1; rw [e, hg] at this; cases this
    | some c =>
      obtain ⟨h1, h2⟩ := getC_key hg
      have := (getC_mem (cutC_rising hr k)).1 ((cutC_is l k c).2 ⟨h1, by rw [h2]; exact hq⟩)
      rw [h2] at this; exact this
theorem getC_map {l : List Cell} (hr : rising (keysOf l)) {F : Cell → Option Cell} (hk : KeepsKey l F) (k : ByteArray) : getC (l.filterMap F) k = (getC l k).bind F := by
  have hr2 : rising (keysOf (l.filterMap F)) := hr.sublist (keys_sub hk)
  cases hg : getC l k with
  | none =>
    refine getC_not fun c hc e => ?_
    obtain ⟨y, hy, hF⟩ := List.mem_filterMap.1 hc
    have := (getC_mem hr).1 hy
    rw [← hk y hy c hF, e, hg] at this; cases this
  | some c =>
    obtain ⟨h1, h2⟩ := getC_key hg
    show _ = F c
    cases hF : F c with
    | none =>
      refine getC_not fun z hz e => ?_
      obtain ⟨y, hy, hFy⟩ := List.mem_filterMap.1 hz
      have hyk := hk y hy z hFy
      have := key_inj hr hy h1 (by rw [← hyk, e, h2])
      subst this
      rw [hF] at hFy; cases hFy
    | some x =>
      have hx := List.mem_filterMap.2 ⟨c, h1, hF⟩
      have := (getC_mem hr2).1 hx
      rw [hk c h1 x hF, h2] at this; exact this
/-! ### a write -/
/-- a cell as a transaction writes it -/
def wrC (l : List Cell) (t : Int) (k : ByteArray) (v : Vl) : Cell := ⟨k, ((getC l k).getD noCell).val, t, v⟩
def busyK (l : List Cell) (t : Int) (k : ByteArray) : Prop := ∃ c, getC l k = some c ∧ c.txn ≠ 0 ∧ c.txn ≠ t
def keepsK (l : List Cell) (k : ByteArray) (v : Vl) : Prop := v.kind ≠ 0 ∨ ((getC l k).getD noCell).val.kind ≠ 0
instance {l t k} : Decidable (busyK l t k) := match h : getC l k with
  | none => isFalse (by rintro ⟨c, h1, _⟩; rw [h] at h1; cases h1)
  | some c => if h2 : c.txn ≠ 0 ∧ c.txn ≠ t then isTrue ⟨c, h, h2⟩ else isFalse (by rintro ⟨d, h1, h3⟩; rw [h] at h1; injection h1 with h1; subst h1; exact h2 h3)
instance {l k v} : Decidable (keepsK l k v) := by unfold keepsK; infer_instance
/-- the document's owns behind a write -/
def writesO (d : List Pair) (ow : List OwnV) (o : OwnV) : List OwnV :=
  if o.val.kind = 0 ∧ valP d o.key = none then ow.filter fun x => decide (x.key ≠ o.key)
  else if (ownAt ow o.key).isSome = true then ow.map fun x => if x.key = o.key then { x with val := o.val } else x
  else ow ++ [o]
theorem ownAt_filter {ow : List OwnV} {k q : ByteArray} : ownAt (ow.filter fun x => decide (x.key ≠ k)) q = if q = k then none else ownAt ow q := by
  by_cases hq : q = k
  · rw [if_pos hq, ownAt_none]
    intro o ho
    have := (List.mem_filter.1 ho).2
    rw [hq]; simpa using this
  · rw [if_neg hq]
    unfold ownAt
    rw [List.find?_filter]
    congr 1; funext x
    by_cases hx : x.key = q
    · simp [hx, hq]
    · simp [hx]
theorem ownAt_app {ow : List OwnV} {o : OwnV} (h : ownAt ow o.key = none) (q : ByteArray) : ownAt (ow ++ [o]) q = if q = o.key then some o else ownAt ow q := by
  unfold ownAt at h ⊢
  rw [List.find?_append]
  by_cases hq : q = o.key
  · subst hq
    rw [h, if_pos rfl]; simp
  · rw [if_neg hq]
    have : [o].find? (fun x => decide (x.key = q)) = none := by simp [Ne.symm hq]
    rw [this]; cases ow.find? _ <;> rfl
theorem ownAt_map {k : ByteArray} {v : Vl} (q : ByteArray) : ∀ {ow : List OwnV}, ownAt (ow.map fun x => if x.key = k then { x with val := v } else x) q = if q = k then (ownAt ow q).map fun x => { x with val := v } else ownAt ow q
  | [] => by simp [ownAt]
  | x :: ow => by
    have ih := ownAt_map (k := k) (v := v) q (ow := ow)
    unfold ownAt at ih ⊢
    rw [List.map_cons, List.find?_cons, List.find?_cons]
    by_cases hx : x.key = k
    · rw [if_pos hx]
      dsimp only
      by_cases hq : x.key = q
      · simp [hq, ← hx]
      · simp only [decide_eq_false hq]; exact ih
    · rw [if_neg hx]
      by_cases hq : x.key = q
      · have : q ≠ k := fun e => hx (by rw [hq, e])
        simp [hq, this]
      · simp only [decide_eq_false hq]; exact ih
theorem once_filter {ow : List OwnV} (h : (ow.map OwnV.key).Nodup) (p : OwnV → Bool) : ((ow.filter p).map OwnV.key).Nodup := h.sublist (List.filter_sublist.map _)
theorem BkL.write {d : List Pair} {ow : List OwnV} {l : List Cell} (h : BkL d ow l) {o : OwnV} (ht : 0 < o.txn) (hb : ¬ busyK l o.txn o.key) (hm : mayCell (wrC l o.txn o.key o.val) = true) :
    BkL d (writesO d ow o) (if keepsK l o.key o.val then insC l (wrC l o.txn o.key o.val) else cutC l o.key) := by
  have hc := h.cell o.key
  have hval : ((getC l o.key).getD noCell).val = (valP d o.key).getD noVl := by
    rw [hc]; unfold cellFor
    cases ownAt ow o.key with
    | some x => rfl
    | none => cases valP d o.key <;> rfl
  have hin : ((getC l o.key).getD noCell).val.kind = 0 ↔ valP d o.key = none := by
    rw [hval]
    cases hv : valP d o.key with
    | none => simp [noVl]
    | some v => simp [h.dk _ ((valP_mem h.rise).1 hv)]
  have hown : ∀ x, ownAt ow o.key = some x → x.txn = o.txn := fun x hx => by
    refine Decidable.byContradiction fun hne => hb ?_
    refine ⟨⟨o.key, (valP d o.key).getD noVl, x.txn, x.val⟩, ?_, ?_, hne⟩
    · rw [h.cell]; unfold cellFor; rw [hx]
    · have := h.own x (ownAt_some hx).1
      show x.txn ≠ 0; omega
  by_cases hk : keepsK l o.key o.val
  · rw [if_pos hk]
    have hk' : ¬ (o.val.kind = 0 ∧ valP d o.key = none) := fun ⟨h1, h2⟩ => hk.elim (fun h3 => h3 h1) fun h3 => h3 (hin.2 h2)
    have hcase : ∀ q, ownAt (writesO d ow o) q = if q = o.key then some o else ownAt ow q := fun q => by
      unfold writesO
      rw [if_neg hk']
      cases hx : ownAt ow o.key with
      | none => rw [if_neg (by simp)]; exact ownAt_app hx q
      | some x =>
        rw [if_pos (show (some x).isSome = true from rfl), ownAt_map]
        by_cases hq : q = o.key
        · subst hq
          rw [if_pos rfl, if_pos rfl, hx]
          have h1 := hown x hx
          have h2 := (ownAt_some hx).2
          obtain ⟨a, b, c⟩ := x
          obtain ⟨a', b', c'⟩ := o
          dsimp only at h1 h2 ⊢
          subst h1 h2; rfl
        · rw [if_neg hq, if_neg hq]
    refine ⟨h.rise, ?_, h.dk, ?_, insC_rising h.lr _, fun c hc' => ?_, fun q => ?_⟩
    · unfold writesO
      rw [if_neg hk']
      split
      · have e : (ow.map fun x => if x.key = o.key then { x with val := o.val } else x).map OwnV.key = ow.map OwnV.key := by
          rw [List.map_map]; congr 1; funext x; dsimp only [Function.comp]; split <;> rfl
        rw [e]; exact h.once
      · rename_i hno
        have hno : ownAt ow o.key = none := by simpa using hno
        rw [List.map_append]
        refine List.nodup_append.2 ⟨h.once, by simp, fun a ha b hb e => ?_⟩
        obtain ⟨x, hx, rfl⟩ := List.mem_map.1 ha
        have hb : b = o.key := by simpa using hb
        exact ownAt_none.1 hno x hx (e.trans hb)
    · intro x hx
      unfold writesO at hx
      rw [if_neg hk'] at hx
      split at hx
      · obtain ⟨y, hy, rfl⟩ := List.mem_map.1 hx
        split
        · exact h.own y hy
        · exact h.own y hy
      · rcases List.mem_append.1 hx with hx | hx
        · exact h.own x hx
        · rw [List.mem_singleton] at hx; rw [hx]; exact ht
    · rcases (insC_mem h.lr).1 hc' with rfl | ⟨hc', _⟩
      · exact hm
      · exact h.good c hc'
    · rw [getC_ins h.lr]
      show (if q = o.key then _ else _) = _
      unfold cellFor
      rw [hcase q]
      by_cases hq : q = o.key
      · rw [if_pos hq, if_pos hq]
        subst hq
        show some (wrC l o.txn o.key o.val) = some _
        unfold wrC; rw [hval]
      · rw [if_neg hq, if_neg hq]; exact h.cell q
  · rw [if_neg hk]
    have hk1 : o.val.kind = 0 := Decidable.byContradiction fun h1 => hk (.inl h1)
    have hk2 : valP d o.key = none := hin.1 (Decidable.byContradiction fun h1 => hk (.inr h1))
    have hw : writesO d ow o = ow.filter fun x => decide (x.key ≠ o.key) := by unfold writesO; rw [if_pos ⟨hk1, hk2⟩]
    rw [hw]
    refine ⟨h.rise, once_filter h.once _, h.dk, fun x hx => h.own x (List.mem_filter.1 hx).1, cutC_rising h.lr _, fun c hc' => h.good c ((cutC_is l _ c).1 hc').1, fun q => ?_⟩
    rw [getC_cut h.lr]
    unfold cellFor
    rw [ownAt_filter]
    by_cases hq : q = o.key
    · rw [if_pos hq, if_pos hq]; subst hq; rw [hk2]; rfl
    · rw [if_neg hq, if_neg hq]; exact h.cell q
/-! ### an end -/
/-- whose writes end: a transaction's; 0: all -/
def isOf (t x : Int) : Bool := decide (¬ 0 < t ∨ x = t)
def endsO (ow : List OwnV) (t : Int) : List OwnV := ow.filter fun o => !isOf t o.txn
def endsD (d : List Pair) (ow : List OwnV) (t : Int) (commit : Bool) : List Pair := (ow.filter fun o => isOf t o.txn).foldl (fun d o => if commit = true then setP d o.key o.val else d) d
def endsN (ow : List OwnV) (t : Int) : Nat := (ow.filter fun o => isOf t o.txn).length
theorem foldP_rising {commit : Bool} : ∀ {ow : List OwnV} {d : List Pair}, rising (keysP d) → rising (keysP (ow.foldl (fun d o => if commit = true then setP d o.key o.val else d) d))
  | [], _, h => h
  | o :: ow, d, h => by
    rw [List.foldl_cons]
    refine foldP_rising (ow := ow) ?_
    split
    · exact setP_rising h
    · exact h
theorem foldP_val {k : ByteArray} {commit : Bool} : ∀ {ow : List OwnV} {d : List Pair}, rising (keysP d) → (ow.map OwnV.key).Nodup →
    valP (ow.foldl (fun d o => if commit = true then setP d o.key o.val else d) d) k = match ownAt ow k with | some o => if commit = true then (if o.val.kind = 0 then none else some o.val) else valP d k | none => valP d k
  | [], d, _, _ => rfl
  | o :: ow, d, h, hn => by
    have hn' := List.nodup_cons.1 (by simpa using hn : (o.key :: ow.map OwnV.key).Nodup)
    rw [List.foldl_cons]
    have hd1 : rising (keysP (if commit = true then setP d o.key o.val else d)) := by
      split
      · exact setP_rising h
      · exact h
    rw [foldP_val hd1 hn'.2]
    by_cases hk : o.key = k
    · have h1 : ownAt ow k = none := ownAt_none.2 fun x hx e => hn'.1 (by rw [hk, ← e]; exact List.mem_map.2 ⟨x, hx, rfl⟩)
      have h2 : ownAt (o :: ow) k = some o := by unfold ownAt; rw [List.find?_cons]; simp [hk]
      rw [h1, h2]
      dsimp only
      by_cases hc : commit = true
      · rw [if_pos hc, if_pos hc, valP_set h, if_pos hk.symm]
      · rw [if_neg hc, if_neg hc]
    · have h2 : ownAt (o :: ow) k = ownAt ow k := by unfold ownAt; rw [List.find?_cons]; simp [hk]
      have h3 : valP (if commit = true then setP d o.key o.val else d) k = valP d k := by
        split
        · rw [valP_set h, if_neg fun e => hk e.symm]
        · rfl
      rw [h2, h3]
theorem ownAt_part {ow : List OwnV} (hn : (ow.map OwnV.key).Nodup) (p : OwnV → Bool) (q : ByteArray) : ownAt (ow.filter p) q = (ownAt ow q).bind fun o => if p o = true then some o else none := by
  cases ho : ownAt ow q with
  | none =>
    rw [ownAt_none] at ho
    exact ownAt_none.2 fun o h => ho o (List.mem_filter.1 h).1
  | some o =>
    obtain ⟨h1, h2⟩ := ownAt_some ho
    show _ = if p o = true then some o else none
    split
    · rename_i hp
      have := ownAt_mem (once_filter hn p) (List.mem_filter.2 ⟨h1, hp⟩)
      rw [h2] at this; exact this
    · rename_i hp
      refine ownAt_none.2 fun x hx e => ?_
      obtain ⟨h3, h4⟩ := List.mem_filter.1 hx
      have h5 := ownAt_mem hn h3
      rw [e, ho] at h5; injection h5 with h5; subst h5
      exact hp h4
def howOf (commit : Bool) : Cell → Cell × Bool := if commit = true then commitC else undoC
theorem howOf_ok (commit : Bool) : HowOk (howOf commit) := by
  cases commit
  · exact undo_ok
  · exact commit_ok
theorem undoC_key {c : Cell} (h : (undoC c).2 = true) : (undoC c).1.key = c.key := by
  unfold undoC at h ⊢
  by_cases hk : c.val.kind = 0
  · rw [if_pos hk] at h; cases h
  · rw [if_neg hk]
theorem commitC_key {c : Cell} (h : (commitC c).2 = true) : (commitC c).1.key = c.key := by
  unfold commitC at h ⊢
  rw [undoC_key h]
  split <;> rfl
theorem end_keeps {l : List Cell} {p : Int → Bool} (commit : Bool) : KeepsKey l (endF p (howOf commit)) := fun c hc x hx => by
  unfold endF at hx
  split at hx
  · split at hx
    · injection hx with hx
      rename_i h1 h2
      subst hx
      cases commit with
      | true => exact commitC_key h2
      | false => exact undoC_key h2
    · cases hx
  · injection hx with hx; rw [hx]
theorem BkL.ends {d : List Pair} {ow : List OwnV} {l : List Cell} (h : BkL d ow l) (hf : FlL l) (t : Int) (commit : Bool) :
    BkL (endsD d ow t commit) (endsO ow t) (endL l (isOf t) (howOf commit)) ∧ endN l (isOf t) = endsN ow t := by
  have hkk := end_keeps (l := l) (p := isOf t) commit
  have hdr : rising (keysP (endsD d ow t commit)) := foldP_rising h.rise
  have hval := fun k => foldP_val (k := k) (commit := commit) h.rise (once_filter h.once fun o => isOf t o.txn)
  refine ⟨⟨hdr, once_filter h.once _, fun p hp => ?_, fun o ho => h.own o (List.mem_filter.1 ho).1, h.lr.sublist (keys_sub hkk), fun c hc => ?_, fun k => ?_⟩, ?_⟩
  · obtain ⟨k, v⟩ := p
    have hv := (valP_mem hdr).2 hp
    have hv' := (hval k).symm.trans hv
    have hd : valP d k = some v → v.kind ≠ 0 := fun e => h.dk _ ((valP_mem h.rise).1 e)
    show v.kind ≠ 0
    split at hv'
    · split at hv'
      · split at hv'
        · cases hv'
        · rename_i h1; injection hv' with hv'; rw [← hv']; exact h1
      · exact hd hv'
    · exact hd hv'
  · obtain ⟨y, hy, hF⟩ := List.mem_filterMap.1 hc
    unfold endF at hF
    split at hF
    · rename_i hp
      split at hF
      · injection hF with hF; subst hF
        rename_i h2
        exact (howOf_ok commit y (h.good y hy) hp.1 (hf y hy) h2).2.1
      · cases hF
    · injection hF with hF; rw [← hF]; exact h.good y hy
  · show getC (l.filterMap _) k = _
    rw [getC_map h.lr hkk, h.cell]
    have hv := hval k
    rw [ownAt_part h.once] at hv
    unfold cellFor
    show _ = match ownAt (ow.filter fun o => !isOf t o.txn) k with | some o => _ | none => _
    rw [ownAt_part h.once]
    cases ho : ownAt ow k with
    | none =>
      rw [ho] at hv
      have hv : valP (endsD d ow t commit) k = valP d k := hv
      dsimp only [Option.bind]
      rw [hv]
      cases hd : valP d k with
      | none => rfl
      | some v =>
        show endF (isOf t) (howOf commit) ⟨k, v, 0, noVl⟩ = _
        unfold endF
        rw [if_neg (by simp)]; rfl
    | some o =>
      rw [ho] at hv
      have hot := h.own o (ownAt_some ho).1
      have hm := h.good _ (getC_key (show getC l k = some ⟨k, (valP d k).getD noVl, o.txn, o.val⟩ by rw [h.cell]; unfold cellFor; rw [ho])).1
      show endF (isOf t) (howOf commit) ⟨k, (valP d k).getD noVl, o.txn, o.val⟩ = _
      unfold endF
      dsimp only [Option.bind] at hv ⊢
      cases hp : isOf t o.txn with
      | false =>
        rw [hp] at hv
        have hv : valP (endsD d ow t commit) k = valP d k := hv
        rw [if_neg (by simp)]
        simp only [Bool.not_false, if_true]
        rw [hv]
      | true =>
        have hv : valP (endsD d ow t commit) k = if commit = true then (if o.val.kind = 0 then none else some o.val) else valP d k := by rw [hp] at hv; exact hv
        rw [if_pos ⟨by omega, rfl⟩]
        show _ = (valP (endsD d ow t commit) k).map fun v => (⟨k, v, 0, noVl⟩ : Cell)
        rw [hv]
        cases commit with
        | true =>
          show (if (commitC ⟨k, (valP d k).getD noVl, o.txn, o.val⟩).2 = true then some (commitC ⟨k, (valP d k).getD noVl, o.txn, o.val⟩).1 else none) = (if o.val.kind = 0 then none else some o.val : Option Vl).map fun v => (⟨k, v, 0, noVl⟩ : Cell)
          have e : commitC ⟨k, (valP d k).getD noVl, o.txn, o.val⟩ = if o.val.kind = 0 then (noCell, false) else (⟨k, o.val, 0, noVl⟩, true) := by
            unfold commitC undoC; rw [if_pos hot]
          rw [e]
          by_cases hk : o.val.kind = 0
          · rw [if_pos hk, if_pos hk]; rfl
          · rw [if_neg hk, if_neg hk]; rfl
        | false =>
          show (if (undoC ⟨k, (valP d k).getD noVl, o.txn, o.val⟩).2 = true then some (undoC ⟨k, (valP d k).getD noVl, o.txn, o.val⟩).1 else none) = (valP d k).map fun v => (⟨k, v, 0, noVl⟩ : Cell)
          cases hd : valP d k with
          | none => rfl
          | some v =>
            have hvk := h.dk _ ((valP_mem h.rise).1 hd)
            have e : undoC ⟨k, (some v).getD noVl, o.txn, o.val⟩ = (⟨k, v, 0, noVl⟩, true) := by
              unfold undoC; exact if_neg hvk
            rw [e]; rfl
  · unfold endN endsN
    rw [← List.length_map (f := Cell.key), ← List.length_map (f := OwnV.key)]
    refine nodup_len ((rising_nodup h.lr).sublist (List.filter_sublist.map _)) (once_filter h.once _) fun k => ?_
    rw [List.mem_map, List.mem_map]
    constructor
    · rintro ⟨c, hc, rfl⟩
      obtain ⟨h1, h2⟩ := List.mem_filter.1 hc
      have h2 := of_decide_eq_true h2
      have hg := (getC_mem h.lr).1 h1
      rw [h.cell] at hg
      unfold cellFor at hg
      cases ho : ownAt ow c.key with
      | none =>
        rw [ho] at hg
        obtain ⟨v, _, hv⟩ := Option.map_eq_some_iff.1 hg
        rw [← hv] at h2; exact absurd rfl h2.1
      | some o =>
        rw [ho] at hg
        injection hg with hg
        refine ⟨o, List.mem_filter.2 ⟨(ownAt_some ho).1, ?_⟩, (ownAt_some ho).2⟩
        have : c.txn = o.txn := by rw [← hg]
        rw [← this]; exact h2.2
    · rintro ⟨o, ho, rfl⟩
      obtain ⟨h1, h2⟩ := List.mem_filter.1 ho
      have ho := ownAt_mem h.once h1
      have hg : getC l o.key = some ⟨o.key, (valP d o.key).getD noVl, o.txn, o.val⟩ := by rw [h.cell]; unfold cellFor; rw [ho]
      refine ⟨_, List.mem_filter.2 ⟨(getC_key hg).1, decide_eq_true ⟨?_, h2⟩⟩, rfl⟩
      have := h.own o h1
      show o.txn ≠ 0; omega
end Go.Pl
end

section
namespace Go.Pl
open Go Go.Sx
theorem TreeAt.good {Q : Pages} : ∀ {d : Nat} {no : Int} {lo hi : ByteArray} {g : Gone}, TreeAt Q d no lo hi g → GoodL g.2 := by
  intro d
  induction d with
  | zero =>
    rintro no lo hi g ⟨n, h1, h2, h3, rfl, h5⟩ c hc
    obtain ⟨_, _, hm, _⟩ := (may_leaf h3).1 h1.1.nd.may
    exact ⟨hm c hc, h1.1.fl c hc⟩
  | succ d ih =>
    rintro no lo hi g ⟨n, ps, h1, h2, h3, h4, h5, rfl⟩ c hc
    obtain ⟨p, hp, hcp⟩ := List.mem_flatMap.1 hc
    obtain ⟨i, hi⟩ := List.getElem?_of_mem hp
    obtain ⟨kid, hk⟩ : ∃ kid, n.kids[i]? = some kid := ⟨_, List.getElem?_eq_getElem (by have := (List.getElem?_eq_some_iff.1 hi).1; omega)⟩
    exact ih (h5 i kid p hk hi).1 c hcp
theorem RightT.good {Q : Pages} {g : Gone} (h : RightT Q g) : GoodL g.2 := by
  rcases h with ⟨_, rfl⟩ | ⟨_, _, h, _⟩
  · intro c hc; cases hc
  · exact h.good
theorem TrIn.good {sT b : Nat} {P : Value} {I : Chunk → Prop} {Qb : Pages} {g : Gone} {H : Chunk} (h : TrIn sT b P I Qb g H) : GoodL g.2 := by
  obtain ⟨Q, _, h⟩ := h; exact h.good
theorem GoodL.fl {l : List Cell} (h : GoodL l) : FlL l := fun c hc => (h c hc).2
theorem GoodL.may {l : List Cell} (h : GoodL l) : ∀ c ∈ l, mayCell c = true := fun c hc => (h c hc).1
/-- may a number be a transaction's? -/
def isT (t : Int) : Bool := decide (1 ≤ t) && decide (t ≤ 1099511627776)
/-- what Write comes to -/
def WriteR (t : Int) (k : ByteArray) (v : Vl) (g g' : Gone) (e : Int) : Prop :=
  ((isT t = false ∨ mayKey k = false ∨ mayVl v = false) ∧ e = 1 ∧ g' = g) ∨
  ((isT t = true ∧ mayKey k = true ∧ mayVl v = true) ∧ busyK g.2 t k ∧ e = 9 ∧ g' = g) ∨
  ((isT t = true ∧ mayKey k = true ∧ mayVl v = true) ∧ ¬ busyK g.2 t k ∧ e = 0 ∧ g'.2 = if keepsK g.2 k v then insC g.2 (wrC g.2 t k v) else cutC g.2 k) ∨
  ((isT t = true ∧ mayKey k = true ∧ mayVl v = true) ∧ ¬ busyK g.2 t k ∧ e = 4 ∧ g' = g ∧ 20 ≤ g.2.length ∧ keepsK g.2 k v)
theorem wrC_may {l : List Cell} (hl : GoodL l) {t : Int} {k : ByteArray} {v : Vl} (h : isT t = true ∧ mayKey k = true ∧ mayVl v = true) : mayCell (wrC l t k v) = true := by
  obtain ⟨h1, h2, h3⟩ := h
  unfold isT at h1
  simp only [Bool.and_eq_true, decide_eq_true_eq] at h1
  refine may_make h2 ?_ h3 (by show 0 ≤ t; omega) h1.2 (.inl (by show 0 < t; omega))
  show mayVl ((getC l k).getD noCell).val = true
  cases hg : getC l k with
  | none => exact noVl_may
  | some c => exact (may_parts (hl c (getC_key hg).1).1).2.1
theorem wrC_fl {l : List Cell} (hl : GoodL l) {t : Int} {k : ByteArray} {v : Vl} (h : v.f < 2 ^ 64) : (wrC l t k v).val.f < 2 ^ 64 ∧ (wrC l t k v).new.f < 2 ^ 64 := by
  refine ⟨?_, h⟩
  exact (getC_fl hl.fl k).1
end Go.Pl
end

section
namespace Go.Pl
open Go Go.Sx
def keyV (i : Nat) : ByteArray := ⟨#[107, UInt8.ofNat (97 + i % 26), UInt8.ofNat (97 + i / 26 % 26)]⟩
theorem keyV_size (i : Nat) : (keyV i).size = 3 := rfl
theorem keyV_may (i : Nat) : mayKey (keyV i) = true := by
  unfold mayKey; rw [keyV_size]
  have : keyV i ≠ ⟨#[]⟩ := fun h => by have := congrArg ByteArray.size h; rw [keyV_size] at this; cases this
  simp [this]
theorem keyV_inj {i j : Nat} (hi : i < 676) (hj : j < 676) (h : keyV i = keyV j) : i = j := by
  unfold keyV at h
  injection h with h
  have h := congrArg Array.toList h
  simp only [List.cons.injEq, and_true, true_and] at h
  obtain ⟨h1, h2⟩ := h
  have h1 := ofNat_inj (by omega) (by omega) h1
  have h2 := ofNat_inj (by omega) (by omega) h2
  omega
theorem digV {q : Nat} (h : q < 26) : IntKind.u8.wrap (IntKind.i64.wrap (97 + (q : Int))) = ((UInt8.ofNat (97 + q)).toNat : Int) := by
  rw [wrap_i64 (by omega) (by omega), show (97 : Int) + (q : Int) = ((97 + q : Nat) : Int) by omega]; exact wrap_u8 _
theorem digV0 (i : Nat) : IntKind.u8.wrap (IntKind.i64.wrap (97 + (i : Int).tmod 26)) = ((UInt8.ofNat (97 + i % 26)).toNat : Int) := by
  rw [show (26 : Int) = ((26 : Nat) : Int) from rfl, tmod_nat]; exact digV (by omega)
theorem digV1 {i : Nat} (hi : i ≤ 1000000) : IntKind.u8.wrap (IntKind.i64.wrap (97 + (IntKind.i64.wrap ((i : Int).tdiv 26)).tmod 26)) = ((UInt8.ofNat (97 + i / 26 % 26)).toNat : Int) := by
  rw [show (26 : Int) = ((26 : Nat) : Int) from rfl, tdiv_nat hi, tmod_nat]; exact digV (by omega)
/-- every cell is the transaction's own, new -/
def OwnAll (t : Int) (l : List Cell) : Prop := ∀ c ∈ l, c.txn = t ∧ c.val = noVl
theorem OwnAll.nil (t : Int) : OwnAll t [] := fun _ h => by cases h
theorem OwnAll.free {t : Int} {l : List Cell} (h : OwnAll t l) (k : ByteArray) : ¬ busyK l t k := by
  rintro ⟨c, hc, _, h2⟩; exact h2 (h c (getC_key hc).1).1
theorem OwnAll.val {t : Int} {l : List Cell} (h : OwnAll t l) (k : ByteArray) : ((getC l k).getD noCell).val = noVl := by
  cases hg : getC l k with
  | none => rfl
  | some c => exact (h c (getC_key hg).1).2
theorem OwnAll.write {t : Int} {g g' : Gone} (h : OwnAll t g.2) (hr : rising (keysOf g.2)) {k : ByteArray} {v : Vl} {e : Int} (hw : WriteR t k v g g' e) : OwnAll t g'.2 := by
  rcases hw with ⟨_, _, rfl⟩ | ⟨_, _, _, rfl⟩ | ⟨_, _, _, h2⟩ | ⟨_, _, _, rfl, _⟩
  · exact h
  · exact h
  · rw [h2]
    split
    · intro c hc
      rcases (insC_mem hr).1 hc with rfl | ⟨hc, _⟩
      · exact ⟨rfl, h.val k⟩
      · exact h c hc
    · intro c hc; exact h c ((cutC_is _ k c).1 hc).1
  · exact h
end Go.Pl
end

section
namespace Go.Pl
open Go Go.Sx
theorem write_few {t : Int} {k : ByteArray} {v : Vl} {g g' : Gone} {e : Int} (h : WriteR t k v g g' e) (hok : isT t = true ∧ mayKey k = true ∧ mayVl v = true) (hb : ¬ busyK g.2 t k) (hl : g.2.length < 20) : e = 0 ∧ g'.2 = if keepsK g.2 k v then insC g.2 (wrC g.2 t k v) else cutC g.2 k := by
  rcases h with ⟨h1 | h1 | h1, _⟩ | ⟨_, h2, _⟩ | ⟨_, _, h1, h2⟩ | ⟨_, _, _, _, h1, _⟩
  · rw [hok.1] at h1; cases h1
  · rw [hok.2.1] at h1; cases h1
  · rw [hok.2.2] at h1; cases h1
  · exact absurd h2 hb
  · exact ⟨h1, h2⟩
  · omega
theorem write_busy {t : Int} {k : ByteArray} {v : Vl} {g g' : Gone} {e : Int} (h : WriteR t k v g g' e) (hok : isT t = true ∧ mayKey k = true ∧ mayVl v = true) (hb : busyK g.2 t k) : e = 9 ∧ g' = g := by
  rcases h with ⟨h1 | h1 | h1, _⟩ | ⟨_, _, h1, h2⟩ | ⟨_, h2, _⟩ | ⟨_, h2, _⟩
  · rw [hok.1] at h1; cases h1
  · rw [hok.2.1] at h1; cases h1
  · rw [hok.2.2] at h1; cases h1
  · exact ⟨h1, h2⟩
  · exact absurd hb h2
  · exact absurd hb h2
def kK : ByteArray := ⟨#[107]⟩
def vF : Vl := ⟨1, 4611686018427387904, ⟨#[]⟩⟩
def cK : Cell := ⟨kK, noVl, 1, vF⟩
theorem vbegun1 {g : Gone} {e : Int} (h : WriteR 1 kK vF ([], []) g e) : e = 0 ∧ g.2 = [cK] := by
  obtain ⟨h1, h2⟩ := write_few h ⟨by decide, by decide, by decide⟩ (fun ⟨c, hc, _⟩ => by cases hc) (by show 0 < 20; decide)
  refine ⟨h1, h2.trans ?_⟩
  rw [if_pos (.inl (by decide)), ← lawPut_is (l := []) List.Pairwise.nil]; decide
theorem vbegun2 {g g' : Gone} {e : Int} (hg : g.2 = [cK]) (h : WriteR 2 kK vF g g' e) : e = 9 ∧ g' = g :=
  write_busy h ⟨by decide, by decide, by decide⟩ ⟨cK, by rw [hg]; decide, by decide, by decide⟩
theorem vsee1 : seeK [cK] 1 kK = vF := by decide
theorem vsee2 : seeK [cK] 2 kK = noVl := by decide
theorem vend1 : endN [cK] (fun x => decide (x = 1)) = 1 := by decide
theorem vend2 : endL [cK] (fun x => decide (x = 1)) commitC = [⟨kK, vF, 0, noVl⟩] := by decide
theorem vsee3 : seeK [⟨kK, vF, 0, noVl⟩] 0 kK = vF := by decide
theorem eqVl_self (v : Vl) : eqVl v v = true := by unfold eqVl; simp
end Go.Pl
end

section
namespace Go.Pl
open Go Go.Sx
def maskN (x : Int) (m : Nat) : Nat := (BitVec.ofInt 64 x &&& BitVec.ofInt 64 (m : Int)).toNat
theorem maskN_le {x : Int} {m : Nat} (hm : m < 1000) : maskN x m ≤ m := by
  unfold maskN
  rw [BitVec.toNat_and, of64 (by omega)]
  exact Nat.and_le_right
theorem mask_is {x : Int} {m : Nat} (hm : m < 1000) : IntKind.i64.wrap ((BitVec.ofInt IntKind.i64.bits x &&& BitVec.ofInt IntKind.i64.bits (m : Int)).toNat : Int) = ((maskN x m : Nat) : Int) := by
  have := maskN_le (x := x) hm
  show IntKind.i64.wrap ((maskN x m : Nat) : Int) = _
  rw [wrap_i64 (by omega) (by omega)]
theorem pair_val {c : Cell} {t : Int} (h : ¬ (0 < t ∧ c.txn = t)) : pairOf t c = if c.val.kind = 0 then none else some (c.key, c.val) := by
  have e : seeC c t = c.val := if_neg h
  unfold pairOf; rw [e]
theorem pair_new {c : Cell} {t : Int} (h : 0 < t ∧ c.txn = t) : pairOf t c = if c.new.kind = 0 then none else some (c.key, c.new) := by
  have e : seeC c t = c.new := if_pos h
  unfold pairOf; rw [e]
theorem pair0 {c : Cell} : pairOf 0 c = if c.val.kind = 0 then none else some (c.key, c.val) := pair_val (fun h => absurd h.1 (by decide))
theorem filterMap_ext2 {α β γ : Type} {f : α → Option β} {g : β → Option γ} {h : α → Option γ} {l : List α} (e : ∀ x ∈ l, (f x).bind g = h x) : (l.filterMap f).filterMap g = l.filterMap h := by
  rw [List.filterMap_filterMap]
  induction l with
  | nil => rfl
  | cons x l ih =>
    rw [List.filterMap_cons, List.filterMap_cons, e x (by simp), ih fun y hy => e y (by simp [hy])]
/-! ### what one transaction writes and takes away again -/
def KeysIn (f : Nat → ByteArray) (i n : Nat) (l : List Cell) : Prop := ∀ c ∈ l, ∃ q, i ≤ q ∧ q < n ∧ c.key = f q
theorem KeysIn.write {f : Nat → ByteArray} {n : Nat} {g g' : Gone} {t : Int} {v : Vl} {e : Int} (hr : rising (keysOf g.2)) (h : KeysIn f 0 n g.2) (hw : WriteR t (f n) v g g' e) : KeysIn f 0 (n + 1) g'.2 := by
  have up : KeysIn f 0 (n + 1) g.2 := fun c hc => by obtain ⟨q, h1, h2, h3⟩ := h c hc; exact ⟨q, h1, by omega, h3⟩
  rcases hw with ⟨_, _, rfl⟩ | ⟨_, _, _, rfl⟩ | ⟨_, _, _, h2⟩ | ⟨_, _, _, rfl, _⟩
  · exact up
  · exact up
  · rw [h2]
    split
    · intro c hc
      rcases (insC_mem hr).1 hc with rfl | ⟨hc, _⟩
      · exact ⟨n, by omega, by omega, rfl⟩
      · exact up c hc
    · intro c hc; exact up c ((cutC_is _ _ c).1 hc).1
  · exact up
theorem KeysIn.cut {f : Nat → ByteArray} {i n : Nat} {l : List Cell} (h : KeysIn f i n l) : KeysIn f (i + 1) n (cutC l (f i)) := fun c hc => by
  obtain ⟨h1, h2⟩ := (cutC_is l _ c).1 hc
  obtain ⟨q, h3, h4, h5⟩ := h c h1
  exact ⟨q, by have : q ≠ i := fun e => h2 (by rw [h5, e]); omega, h4, h5⟩
theorem KeysIn.none {f : Nat → ByteArray} {n : Nat} {l : List Cell} (h : KeysIn f n n l) : l = [] := by
  refine List.eq_nil_iff_forall_not_mem.2 fun c hc => ?_
  obtain ⟨q, h1, h2, _⟩ := h c hc; omega
end Go.Pl
end

section
namespace Go.Pl
open Go Go.Sx
def cellM (b : Vl) (t : Int) (v : Vl) (i q : Nat) : Option Cell := if q < i then some ⟨keyV q, b, t, v⟩ else if b.kind = 0 then none else some ⟨keyV q, b, 0, noVl⟩
/-- of n keys the first i are written -/
def cellsM (b : Vl) (t : Int) (v : Vl) (n i : Nat) : List Cell := (List.range n).filterMap (cellM b t v i)
theorem cellM_key {b : Vl} {t : Int} {v : Vl} {i q : Nat} {c : Cell} (h : cellM b t v i q = some c) : c.key = keyV q := by
  unfold cellM at h
  split at h
  · injection h with h; subst h; rfl
  · split at h
    · cases h
    · injection h with h; subst h; rfl
theorem keyV_lt {i j : Nat} (h : i < j) (hj : j < 26) : kLt (keyV i) (keyV j) = true := by
  have : ∀ j, j < 26 → ∀ i, i < j → kLt (keyV i) (keyV j) = true := by decide
  exact this j hj i h
theorem range_sorted : ∀ n : Nat, List.Pairwise (· < ·) (List.range n)
  | 0 => List.Pairwise.nil
  | n + 1 => by
    rw [List.range_succ, List.pairwise_append]
    exact ⟨range_sorted n, List.pairwise_singleton _ _, fun a ha b hb => by rw [List.mem_singleton.1 hb]; exact List.mem_range.1 ha⟩
theorem cellsM_rising {b : Vl} {t : Int} {v : Vl} {n i : Nat} (hn : n ≤ 26) : rising (keysOf (cellsM b t v n i)) := by
  unfold cellsM keysOf rising
  rw [List.pairwise_map, List.pairwise_filterMap]
  refine (range_sorted n).imp_of_mem fun {a} {c} ha hc hlt x hx y hy => ?_
  rw [cellM_key hx, cellM_key hy]
  exact keyV_lt hlt (by have := List.mem_range.1 hc; omega)
theorem cellsM_mem {b : Vl} {t : Int} {v : Vl} {n i : Nat} {c : Cell} : c ∈ cellsM b t v n i ↔ ∃ q, q < n ∧ cellM b t v i q = some c := by
  unfold cellsM; rw [List.mem_filterMap]
  constructor
  · rintro ⟨q, h1, h2⟩; exact ⟨q, List.mem_range.1 h1, h2⟩
  · rintro ⟨q, h1, h2⟩; exact ⟨q, List.mem_range.2 h1, h2⟩
theorem cellsM_len (b : Vl) (t : Int) (v : Vl) (n i : Nat) : (cellsM b t v n i).length ≤ n := by
  unfold cellsM; exact Nat.le_trans (List.length_filterMap_le _ _) (by rw [List.length_range]; exact Nat.le_refl _)
theorem cellsM_get {b : Vl} {t : Int} {v : Vl} {n i q : Nat} (hn : n ≤ 26) (hq : q < n) : getC (cellsM b t v n i) (keyV q) = cellM b t v i q := by
  cases h : cellM b t v i q with
  | some c =>
    have := (getC_mem (cellsM_rising (b := b) (t := t) (v := v) (i := i) hn)).1 (cellsM_mem.2 ⟨q, hq, h⟩)
    rw [cellM_key h] at this; exact this
  | none =>
    cases hg : getC (cellsM b t v n i) (keyV q) with
    | none => rfl
    | some c =>
      obtain ⟨h1, h2⟩ := getC_key hg
      obtain ⟨p, h3, h4⟩ := cellsM_mem.1 h1
      have : p = q := keyV_inj (by omega) (by omega) ((cellM_key h4).symm.trans h2)
      subst this; rw [h] at h4; cases h4
/-- one more is written -/
theorem cellsM_write {b : Vl} {t : Int} {v : Vl} {n i : Nat} (hn : n < 20) (hi : i < n) (hb : b.kind = 0 → b = noVl) (ht : isT t = true) (hv : mayVl v = true) (hk : v.kind ≠ 0) {g g' : Gone} {e : Int} (hg : g.2 = cellsM b t v n i) (h : WriteR t (keyV i) v g g' e) : e = 0 ∧ g'.2 = cellsM b t v n (i + 1) := by
  have hc := cellsM_get (b := b) (t := t) (v := v) (i := i) (n := n) (by omega) hi
  have hci : cellM b t v i i = if b.kind = 0 then none else some ⟨keyV i, b, 0, noVl⟩ := by unfold cellM; rw [if_neg (by omega)]
  obtain ⟨h1, h2⟩ := write_few h ⟨ht, keyV_may _, hv⟩ (by
    rintro ⟨c, h1, h2, _⟩
    rw [hg, hc, hci] at h1
    split at h1
    · cases h1
    · injection h1 with h1; subst h1; exact h2 rfl) (by rw [hg]; have := cellsM_len b t v n i; omega)
  refine ⟨h1, h2.trans ?_⟩
  rw [if_pos (.inl hk)]
  have hw : wrC g.2 t (keyV i) v = ⟨keyV i, b, t, v⟩ := by
    unfold wrC; rw [hg, hc, hci]
    by_cases hb0 : b.kind = 0
    · rw [if_pos hb0, hb hb0]; rfl
    · rw [if_neg hb0]; rfl
  have hr := cellsM_rising (b := b) (t := t) (v := v) (n := n) (i := i) (by omega)
  rw [hw, hg]
  refine rising_ext (insC_rising hr _) (cellsM_rising (by omega)) fun c => ?_
  rw [insC_mem hr, cellsM_mem, cellsM_mem]
  constructor
  · rintro (rfl | ⟨⟨q, h3, h4⟩, h5⟩)
    · exact ⟨i, hi, by unfold cellM; rw [if_pos (by omega)]⟩
    · have hq : q ≠ i := fun e => h5 (by rw [cellM_key h4, e])
      refine ⟨q, h3, ?_⟩
      rw [← h4]; unfold cellM
      by_cases hlt : q < i
      · rw [if_pos hlt, if_pos (show q < i + 1 by omega)]
      · rw [if_neg hlt, if_neg (show ¬ q < i + 1 by omega)]
  · rintro ⟨q, h3, h4⟩
    by_cases hq : q = i
    · subst hq
      unfold cellM at h4
      rw [if_pos (by omega)] at h4
      injection h4 with h4; exact .inl h4.symm
    · refine .inr ⟨⟨q, h3, ?_⟩, ?_⟩
      · rw [← h4]; unfold cellM
        by_cases hlt : q < i
        · rw [if_pos hlt, if_pos (show q < i + 1 by omega)]
        · rw [if_neg hlt, if_neg (show ¬ q < i + 1 by omega)]
      · intro e
        rw [cellM_key h4] at e
        exact hq (keyV_inj (by omega) (by omega) e)
theorem cellsM_busy {b : Vl} {t t2 : Int} {v v2 : Vl} {n i : Nat} (hn : n < 20) (hi : i < n) (ht : t ≠ 0) (hne : t ≠ t2) (ht2 : isT t2 = true) (hv : mayVl v2 = true) {g g' : Gone} {e : Int} (hg : g.2 = cellsM b t v n (i + 1)) (h : WriteR t2 (keyV i) v2 g g' e) : e = 9 ∧ g' = g := by
  refine write_busy h ⟨ht2, keyV_may _, hv⟩ ⟨⟨keyV i, b, t, v⟩, ?_, ht, hne⟩
  rw [hg, cellsM_get (by omega) hi]
  unfold cellM; rw [if_pos (by omega)]
def vA : Vl := ⟨2, 0, ⟨#[97]⟩⟩
def vB : Vl := ⟨2, 0, ⟨#[98]⟩⟩
theorem cellsM_none (t : Int) (v : Vl) (n : Nat) : cellsM noVl t v n 0 = [] := by
  unfold cellsM
  rw [List.filterMap_eq_nil_iff]
  intro q _; unfold cellM; rw [if_neg (by omega)]; exact if_pos rfl
theorem fm_congr {α β : Type} {f g : α → Option β} : ∀ {l : List α}, (∀ x ∈ l, f x = g x) → l.filterMap f = l.filterMap g
  | [], _ => rfl
  | x :: l, h => by rw [List.filterMap_cons, List.filterMap_cons, h x (by simp), fm_congr fun y hy => h y (by simp [hy])]
theorem cellsM_commit (n : Nat) : endL (cellsM noVl 1 vA n n) (fun x => decide (x = 1)) commitC = cellsM vA 2 vB n 0 := by
  unfold cellsM endL
  rw [List.filterMap_filterMap]
  refine fm_congr fun q hq => ?_
  have hq := List.mem_range.1 hq
  unfold cellM
  rw [if_pos hq, if_neg (by omega), if_neg (show ¬ vA.kind = 0 by decide)]
  rw [Option.bind_some]
  unfold endF
  rw [if_pos (by exact ⟨show (1 : Int) ≠ 0 by decide, rfl⟩)]
  have : commitC ⟨keyV q, noVl, 1, vA⟩ = (⟨keyV q, vA, 0, noVl⟩, true) := rfl
  rw [this]; rfl
theorem cellsM_undo (n : Nat) : endL (cellsM noVl 1 vA n n) (fun x => decide (x = 1)) undoC = cellsM noVl 2 vB n 0 := by
  rw [cellsM_none]
  unfold cellsM endL
  rw [List.filterMap_filterMap, List.filterMap_eq_nil_iff]
  intro q hq
  have hq := List.mem_range.1 hq
  unfold cellM
  rw [if_pos hq]
  rw [Option.bind_some]
  unfold endF
  rw [if_pos (by exact ⟨show (1 : Int) ≠ 0 by decide, rfl⟩)]
  have : undoC ⟨keyV q, noVl, 1, vA⟩ = (noCell, false) := rfl
  rw [this]; rfl
theorem cellsM_full (b : Vl) (t : Int) (v : Vl) (n : Nat) : cellsM b t v n n = (List.range n).map fun q => ⟨keyV q, b, t, v⟩ := by
  unfold cellsM
  rw [← List.filterMap_eq_map]
  refine fm_congr fun q hq => ?_
  unfold cellM; rw [if_pos (List.mem_range.1 hq)]; rfl
theorem cellsM_count (n : Nat) : endN (cellsM noVl 1 vA n n) (fun x => decide (x = 1)) = n := by
  unfold endN
  rw [List.filter_eq_self.2 fun c hc => ?_, cellsM_full, List.length_map, List.length_range]
  obtain ⟨q, hq, h⟩ := cellsM_mem.1 hc
  unfold cellM at h
  rw [if_pos hq] at h
  injection h with h; subst h; exact decide_eq_true ⟨show (1 : Int) ≠ 0 by decide, rfl⟩
theorem cellsM_range0 {b : Vl} {n : Nat} : (rangeL (cellsM b 2 vB n n) 0 ⟨#[]⟩ ⟨#[]⟩).length = if b.kind = 0 then 0 else n := by
  unfold rangeL
  rw [all_in, cellsM_full, List.filterMap_map]
  by_cases hb : b.kind = 0
  · rw [if_pos hb, List.filterMap_eq_nil_iff.2 fun q _ => ?_]; rfl
    show pairOf 0 _ = none
    rw [pair0]; exact if_pos hb
  · rw [if_neg hb, show List.filterMap (pairOf 0 ∘ fun q => (⟨keyV q, b, 2, vB⟩ : Cell)) (List.range n) = (List.range n).map fun q => (keyV q, b) by
      rw [← List.filterMap_eq_map]
      refine fm_congr fun q _ => ?_
      show pairOf 0 _ = some _
      rw [pair0]; exact if_neg hb]
    rw [List.length_map, List.length_range]
theorem cellsM_range2 {b : Vl} {n : Nat} : rangeL (cellsM b 2 vB n n) 2 ⟨#[]⟩ ⟨#[]⟩ = (List.range n).map fun q => (keyV q, vB) := by
  unfold rangeL
  rw [all_in, cellsM_full, List.filterMap_map, ← List.filterMap_eq_map]
  refine fm_congr fun q _ => ?_
  exact pair_new (c := ⟨keyV q, b, 2, vB⟩) (t := 2) ⟨by decide, rfl⟩
end Go.Pl
end

section
namespace Go.Pl
open Go Go.Sx
def TwoK (t : Int) (k : ByteArray) : Prop := (t = 1 ∧ ∃ n : Nat, n ≤ 31 ∧ k = keyV (2 * n)) ∨ (t = 2 ∧ ∃ n : Nat, n ≤ 31 ∧ k = keyV (2 * n + 1))
def TwoL (l : List Cell) : Prop := ∀ c ∈ l, c.val = noVl ∧ TwoK c.txn c.key
def isW (ca cb : Bool) (t : Int) : Bool := (decide (t = 1) && ca) || (decide (t = 2) && cb)
def wantC (ca cb : Bool) (c : Cell) : Option Pair := if isW ca cb c.txn = true ∧ c.new.kind ≠ 0 then some (c.key, c.new) else none
def wantL (ca cb : Bool) (l : List Cell) : List Pair := l.filterMap (wantC ca cb)
theorem TwoK.same {t s : Int} {k : ByteArray} (h : TwoK t k) (h2 : TwoK s k) : t = s := by
  rcases h with ⟨rfl, n, h1, h3⟩ | ⟨rfl, n, h1, h3⟩ <;> rcases h2 with ⟨rfl, m, h4, h5⟩ | ⟨rfl, m, h4, h5⟩
  · rfl
  · have := keyV_inj (by omega) (by omega) (h3.symm.trans h5); omega
  · have := keyV_inj (by omega) (by omega) (h3.symm.trans h5); omega
  · rfl
theorem wantC_key {ca cb : Bool} {c : Cell} {p : Pair} (h : wantC ca cb c = some p) : p.1 = c.key := by
  unfold wantC at h; split at h
  · injection h with h; subst h; rfl
  · cases h
theorem want_keys (ca cb : Bool) : ∀ l : List Cell, (keysP (wantL ca cb l)).Sublist (keysOf l)
  | [] => List.Sublist.refl _
  | c :: l => by
    have ih := want_keys ca cb l
    unfold wantL
    rw [List.filterMap_cons]
    cases hF : wantC ca cb c with
    | none => exact List.Sublist.cons _ ih
    | some x =>
      show (x.1 :: keysP (wantL ca cb l)).Sublist (c.key :: keysOf l)
      rw [wantC_key hF]; exact List.Sublist.cons_cons _ ih
theorem want_mem {ca cb : Bool} {l : List Cell} {p : Pair} : p ∈ wantL ca cb l ↔ ∃ c ∈ l, wantC ca cb c = some p := by unfold wantL; rw [List.mem_filterMap]
theorem want_len (ca cb : Bool) (l : List Cell) : (wantL ca cb l).length ≤ l.length := List.length_filterMap_le _ _
theorem want_fl {ca cb : Bool} {l : List Cell} (h : FlL l) : ∀ p ∈ wantL ca cb l, p.2.f < 2 ^ 64 := fun p hp => by
  obtain ⟨c, hc, h1⟩ := want_mem.1 hp
  unfold wantC at h1; split at h1
  · injection h1 with h1; subst h1; exact (h c hc).2
  · cases h1
theorem TwoL.nil : TwoL [] := fun _ h => by cases h
theorem two_write {ca cb : Bool} {t : Int} {k : ByteArray} {v : Vl} {g g' : Gone} {e : Int} (hr : rising (keysOf g.2)) (h2 : TwoL g.2) (hk : TwoK t k) (ht : isT t = true) (hmk : mayKey k = true) (hv : mayVl v = true) (hvk : v.kind ≠ 0) (h : WriteR t k v g g' e) :
    (e = 0 ∧ TwoL g'.2 ∧ g'.2.length ≤ g.2.length + 1 ∧ (isW ca cb t = true → wantL ca cb g'.2 = setP (wantL ca cb g.2) k v) ∧ (isW ca cb t = false → wantL ca cb g'.2 = wantL ca cb g.2)) ∨ (e = 4 ∧ 20 ≤ g.2.length) := by
  have hnb : ¬ busyK g.2 t k := by
    rintro ⟨c, hc, _, hne⟩
    obtain ⟨h3, h4⟩ := getC_key hc
    have := (h2 c h3).2
    rw [h4] at this
    exact hne (this.same hk)
  have hval : ((getC g.2 k).getD noCell).val = noVl := by
    cases hg : getC g.2 k with
    | none => rfl
    | some c => exact (h2 c (getC_key hg).1).1
  rcases h with ⟨h1 | h1 | h1, _⟩ | ⟨_, h1, _⟩ | ⟨_, _, h1, hg⟩ | ⟨_, _, h1, _, h3, _⟩
  · rw [ht] at h1; cases h1
  · rw [hmk] at h1; cases h1
  · rw [hv] at h1; cases h1
  · exact absurd h1 hnb
  · refine .inl ⟨h1, ?_⟩
    rw [if_pos (.inl hvk)] at hg
    have hw : wrC g.2 t k v = ⟨k, noVl, t, v⟩ := by unfold wrC; rw [hval]
    rw [hw] at hg
    have hmem : ∀ c, c ∈ g'.2 ↔ c = ⟨k, noVl, t, v⟩ ∨ (c ∈ g.2 ∧ c.key ≠ k) := fun c => by rw [hg]; exact insC_mem hr
    have hr' : rising (keysOf g'.2) := by rw [hg]; exact insC_rising hr _
    refine ⟨fun c hc => ?_, by rw [hg]; exact insC_len_le _ _, fun hw => ?_, fun hw => ?_⟩
    · rcases (hmem c).1 hc with rfl | ⟨hc, _⟩
      · exact ⟨rfl, hk⟩
      · exact h2 c hc
    · have hrw : rising (keysP (wantL ca cb g.2)) := hr.sublist (want_keys ca cb g.2)
      refine pairs_ext (hr'.sublist (want_keys ca cb _)) (setP_rising hrw) fun p => ?_
      rw [setP_mem hrw, want_mem, want_mem]
      constructor
      · rintro ⟨c, hc, hp⟩
        rcases (hmem c).1 hc with rfl | ⟨hc, hne⟩
        · unfold wantC at hp
          rw [if_pos ⟨hw, hvk⟩] at hp
          injection hp with hp; exact .inl ⟨hp.symm, hvk⟩
        · exact .inr ⟨⟨c, hc, hp⟩, by rw [wantC_key hp]; exact hne⟩
      · rintro (⟨rfl, _⟩ | ⟨⟨c, hc, hp⟩, hne⟩)
        · exact ⟨_, (hmem _).2 (.inl rfl), by unfold wantC; rw [if_pos ⟨hw, hvk⟩]⟩
        · exact ⟨c, (hmem c).2 (.inr ⟨hc, by rw [← wantC_key hp]; exact hne⟩), hp⟩
    · refine pairs_ext (hr'.sublist (want_keys ca cb _)) (hr.sublist (want_keys ca cb _)) fun p => ?_
      rw [want_mem, want_mem]
      constructor
      · rintro ⟨c, hc, hp⟩
        rcases (hmem c).1 hc with rfl | ⟨hc, hne⟩
        · unfold wantC at hp
          rw [if_neg (fun h => by rw [hw] at h; cases h.1)] at hp
          cases hp
        · exact ⟨c, hc, hp⟩
      · rintro ⟨c, hc, hp⟩
        refine ⟨c, (hmem c).2 (.inr ⟨hc, fun e => ?_⟩), hp⟩
        have := (h2 c hc).2
        rw [e] at this
        have ht2 := this.same hk
        unfold wantC at hp
        rw [ht2, if_neg (fun h => by rw [hw] at h; cases h.1)] at hp
        cases hp
  · exact .inr ⟨h1, h3⟩
/-- both are ended -/
def finC (ca cb : Bool) (c : Cell) : Option Cell := if isW ca cb c.txn = true ∧ c.new.kind ≠ 0 then some ⟨c.key, c.new, 0, noVl⟩ else none
theorem end_own {c : Cell} {t : Int} {cm : Bool} (ht : 0 < t) (hv : c.val = noVl) (h : c.txn = t) : endF (fun x => decide (x = t)) (howOf cm) c = if cm = true ∧ c.new.kind ≠ 0 then some ⟨c.key, c.new, 0, noVl⟩ else none := by
  unfold endF
  rw [if_pos ⟨by omega, decide_eq_true h⟩]
  cases cm with
  | true =>
    have e : howOf true c = undoC { c with val := c.new } := by unfold howOf commitC; rw [if_pos rfl, if_pos (show 0 < c.txn by omega)]
    rw [e]
    by_cases hk : c.new.kind = 0
    · have : undoC { c with val := c.new } = (noCell, false) := if_pos hk
      rw [this]
      exact (if_neg (fun h : true = true ∧ c.new.kind ≠ 0 => h.2 hk)).symm
    · have : undoC { c with val := c.new } = ({ c with val := c.new, txn := 0, new := noVl }, true) := if_neg hk
      rw [this]
      exact (if_pos (show true = true ∧ c.new.kind ≠ 0 from ⟨rfl, hk⟩)).symm
  | false =>
    have e : howOf false c = (noCell, false) := by
      show undoC c = _
      unfold undoC; rw [if_pos (by rw [hv]; rfl)]
    rw [e]
    exact (if_neg (fun h : false = true ∧ c.new.kind ≠ 0 => by cases h.1)).symm
theorem end_other {c : Cell} {t : Int} {cm : Bool} (h : c.txn ≠ t) : endF (fun x => decide (x = t)) (howOf cm) c = some c := by
  unfold endF; rw [if_neg (fun h2 => h (of_decide_eq_true h2.2))]
theorem end_two {l : List Cell} (h : TwoL l) (ca cb : Bool) : endL (endL l (fun x => decide (x = 1)) (howOf ca)) (fun x => decide (x = 2)) (howOf cb) = l.filterMap (finC ca cb) := by
  unfold endL
  refine filterMap_ext2 fun c hc => ?_
  obtain ⟨h1, h2⟩ := h c hc
  rcases h2 with ⟨h2, _⟩ | ⟨h2, _⟩
  · rw [end_own (by decide) h1 h2]
    unfold finC
    have : isW ca cb c.txn = ca := by unfold isW; rw [h2]; simp
    rw [this]
    by_cases hc : ca = true ∧ c.new.kind ≠ 0
    · rw [if_pos hc]
      exact end_other (by show (0 : Int) ≠ 2; decide)
    · rw [if_neg hc]; rfl
  · rw [end_other (by rw [h2]; decide)]
    rw [Option.bind_some, end_own (by decide) h1 h2]
    unfold finC
    have : isW ca cb c.txn = cb := by unfold isW; rw [h2]; simp
    rw [this]
theorem end_two2 {l : List Cell} (h : TwoL l) (ca cb : Bool) : endL (endL l (fun x => decide (x = 2)) (howOf cb)) (fun x => decide (x = 1)) (howOf ca) = l.filterMap (finC ca cb) := by
  unfold endL
  refine filterMap_ext2 fun c hc => ?_
  obtain ⟨h1, h2⟩ := h c hc
  rcases h2 with ⟨h2, _⟩ | ⟨h2, _⟩
  · rw [end_other (by rw [h2]; decide)]
    rw [Option.bind_some, end_own (by decide) h1 h2]
    unfold finC
    have : isW ca cb c.txn = ca := by unfold isW; rw [h2]; simp
    rw [this]
  · rw [end_own (by decide) h1 h2]
    unfold finC
    have : isW ca cb c.txn = cb := by unfold isW; rw [h2]; simp
    rw [this]
    by_cases hc : cb = true ∧ c.new.kind ≠ 0
    · rw [if_pos hc]
      exact end_other (by show (0 : Int) ≠ 1; decide)
    · rw [if_neg hc]; rfl
theorem fin_range {l : List Cell} {ca cb : Bool} : rangeL (l.filterMap (finC ca cb)) 0 ⟨#[]⟩ ⟨#[]⟩ = wantL ca cb l := by
  unfold rangeL wantL
  rw [all_in]
  refine filterMap_ext2 fun c hc => ?_
  unfold finC wantC
  by_cases h : isW ca cb c.txn = true ∧ c.new.kind ≠ 0
  · rw [if_pos h, if_pos h]
    show pairOf 0 _ = _
    rw [pair0]; exact if_neg h.2
  · rw [if_neg h, if_neg h]; rfl
theorem fin_none {l : List Cell} {ca cb : Bool} {p : Int → Bool} : endN (l.filterMap (finC ca cb)) p = 0 := by
  unfold endN
  rw [List.length_eq_zero_iff, List.filter_eq_nil_iff]
  intro c hc
  obtain ⟨d, _, h⟩ := List.mem_filterMap.1 hc
  unfold finC at h
  split at h
  · injection h with h; subst h; simp
  · cases h
theorem near_may {i : Nat} (h : i < 15) : mayVl ⟨1, FloatKind.f64.nearest (i : Nat), ⟨#[]⟩⟩ = true := by
  have : ∀ i, i < 15 → mayVl ⟨1, FloatKind.f64.nearest (i : Nat), ⟨#[]⟩⟩ = true := by decide
  exact this i h
theorem even_key {x : Int} : TwoK 1 (keyV (2 * maskN x 31)) := .inl ⟨rfl, _, maskN_le (by decide), rfl⟩
theorem odd_key {x : Int} : TwoK 2 (keyV (2 * maskN x 31 + 1)) := .inr ⟨rfl, _, maskN_le (by decide), rfl⟩
end Go.Pl
namespace Go.Pl
open Go Go.Sx
theorem mask2 {x : Int} {m : Nat} (hm : m < 1000) : IntKind.i64.wrap (IntKind.i64.wrap ((BitVec.ofInt IntKind.i64.bits x &&& BitVec.ofInt IntKind.i64.bits (m : Int)).toNat : Int) * 2) = ((2 * maskN x m : Nat) : Int) := by
  have := maskN_le (x := x) hm
  rw [mask_is hm, wrap_i64 (by omega) (by omega)]; omega
theorem mask21 {x : Int} {m : Nat} (hm : m < 1000) : IntKind.i64.wrap (IntKind.i64.wrap (IntKind.i64.wrap ((BitVec.ofInt IntKind.i64.bits x &&& BitVec.ofInt IntKind.i64.bits (m : Int)).toNat : Int) * 2) + 1) = ((2 * maskN x m + 1 : Nat) : Int) := by
  have := maskN_le (x := x) hm
  rw [mask2 hm, wrap_i64 (by omega) (by omega)]; omega
end Go.Pl
end

section
namespace Go.Sx
open Go
section
variable [Outer] {X : Cx} {k : Kont} {R : Reg} {hs : List Chunk} {ops : Array Oper} {l : List Oper} {T : Tab} {d ty' : Nat} {pos : String} {after : Array Edge} {gd : Option (Nat × Bool)}
/-- float64(n) -/
theorem OT.conv_if {s t' : Nat} {x : Operand} {kk : IntKind} {n : Int} (hT : T.ok X.P) (hs' : ty T s = some (.one (.int kk))) (ht : ty T t' = some (.one (.float .f64))) (hg : grd ops R gd = some true) (hx : ev R x = some (.int kk n)) (hdn : Nat.ble (d + 1) X.n = true)
    (h : OT X ops l k ((d, .float .f64 (FloatKind.f64.nearest n)) :: R) hs) : OT X ops (⟨some d, .convert s t' x, ty', pos, after, gd⟩ :: l) k R hs := by
  refine OT.value hg rfl hdn fun a w ha hm => ⟨_, hs, w, ?_, hm, h⟩
  have h1 := (hT.ty hs').1
  have h2 := (hT.ty ht).1
  simp only [execOp, ha.ev hx]
  simp [convert, run_underlying h1, run_underlying h2, Conv.intToFloat]
end
end Go.Sx
namespace Go.Pl
open Go Go.Sx
structure VOp where
  kind : Int
  txn : Int
  key : ByteArray
  to : ByteArray
  val : Vl
theorem near_lt (n : Int) : FloatKind.f64.nearest n < 2 ^ 64 := FloatKind.f64.format.write_lt (.number (n < 0) n.natAbs 0)
end Go.Pl
end
