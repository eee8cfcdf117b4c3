/- Several texts in one. What a book's snapshots show when changes have been laid into it. No program in sight. A book with one snapshot. No program in sight. Books with some snapshots, each as it was. No program in sight. A book that is gone back to a snapshot. No program in sight. First bytes of pages. No program in sight. Some snapshots at once; how many side pages they have. No program in sight. Lists of changes as a law is handed them. No program in sight. The document's book beside the program's. No program in sight. The document's book in memory. No program in sight. The document's book beside the program's: a change, a going back. No program in sight. CowAll, plainly. No program in sight. -/
import Derived.Test.YtnhkgchcdbideaaLC

section
namespace Go.Pl
open Go Go.Sx

theorem find_self {n : Int} {xs : List Snap} (h : GoodC n xs) {k : Nat} {s : Snap} (hs : xs[k]? = some s) : findAt (named s.name) 0 xs = k := by
  refine findAt_at hs (by unfold named; simp) fun y hy => ?_
  obtain ⟨j, hj⟩ := List.getElem?_of_mem hy
  rw [List.getElem?_take] at hj
  split at hj
  · rename_i hjk
    obtain ⟨h1, e1⟩ := List.getElem?_eq_some_iff.1 hj
    obtain ⟨h2, e2⟩ := List.getElem?_eq_some_iff.1 hs
    have := List.pairwise_iff_getElem.1 h.names j k h1 h2 hjk
    rw [e1, e2] at this
    unfold named
    exact decide_eq_false this
  · cases hj
theorem wasOf_like {n : Int} {was xs : List Snap} {m k : Nat} {s t : Snap} (h : GoodC n was) (hs : (was.take m)[k]? = some s) (hl : Like s t) : was[k]? = some s ∧ wasOf was t = s := by
  have hw : was[k]? = some s := by
    rw [List.getElem?_take] at hs
    split at hs
    · exact hs
    · cases hs
  refine ⟨hw, ?_⟩
  unfold wasOf
  rw [hl.name, find_self h hw, Int.toNat_natCast, List.getD_eq_getElem?_getD, hw]
  rfl
/-- changes that are no side pages' -/
def DataChg (c : Chg) : Prop := ChgLen c ∧ ∀ no, no < 1 ∨ 32 ≤ no → c no = none
theorem encode_page {n : Int} {xs : List Snap} (h35 : ∀ s ∈ xs, (encSnap s).length = 35) (h : GoodC n xs) : decodeS (encode n xs).1 = ((n, xs), 0) ∧ (encode n xs).1.length = 256 := by
  have hm := may_iff.2 h
  refine ⟨?_, encode_256 h35 hm⟩
  unfold encode; rw [if_pos hm]
  exact decode_encode h35 hm
section
variable {Q : Pages} {n but : Int} {was : List Snap} {m : Nat} {c : Chg}
/-- what is laid -/
def after (Q : Pages) (n but : Int) (was : List Snap) (m : Nat) (c : Chg) : Pages := lay Q (imgsOf (expandM Q n was (expandS Q but (nosOf c) (was.take m)) c) 96)
theorem after_at {no : Int} (hn : mayPage no) : after Q n but was m c no = (expandM Q n was (expandS Q but (nosOf c) (was.take m)) c no).getD (Q no) := lay_all Q _ hn
theorem after_good (h : CowSt Q n was) : GoodC n (expandS Q but (nosOf c) (was.take m)) ∧ Likes (was.take m) (expandS Q but (nosOf c) (was.take m)) :=
  expandS_good (h.good.take m) (fun s hs => h.h32 s (List.mem_of_mem_take hs)) (nosOf_nodup c)
theorem after_35 (h : CowSt Q n was) : ∀ s ∈ expandS Q but (nosOf c) (was.take m), (encSnap s).length = 35 := fun s hs => len35.2 ((after_good h).2.len32 (fun s hs => h.h32 s (List.mem_of_mem_take hs)) s hs)
theorem after_len (h : CowSt Q n was) (hc : DataChg c) : ChgLen (expandM Q n was (expandS Q but (nosOf c) (was.take m)) c) :=
  expandM_len h.long (after_35 h) (may_iff.2 (after_good h).1) hc.1
theorem sides_side (h : CowSt Q n was) : ∀ p ∈ sides was (expandS Q but (nosOf c) (was.take m)), 32 ≤ p.1 ∧ p.1 < 96 := fun p hp => by
  obtain ⟨t, ht, hp⟩ := List.mem_flatMap.1 hp
  obtain ⟨a, no⟩ := p
  obtain ⟨_, _, rfl, h0, _⟩ := mem_sideOf.1 hp
  have := t.at_side ((after_good h).1.sides t ht) no
  dsimp only; omega
theorem after_cat (h : CowSt Q n was) (hc : DataChg c) : after Q n but was m c 0 = (encode n (expandS Q but (nosOf c) (was.take m))).1 := by
  rw [after_at (by unfold mayPage; omega)]
  unfold expandM sealCat
  split
  · rename_i e
    rw [laySides_off fun p hp => by have := sides_side h p hp; omega, hc.2 0 (by omega), e]; rfl
  · unfold updO; rw [if_pos rfl]; rfl
theorem after_data (h : CowSt Q n was) {no : Int} (h1 : 1 ≤ no) (h2 : no < 32) : after Q n but was m c no = (c no).getD (Q no) := by
  rw [after_at (by unfold mayPage; omega)]
  have e : laySides Q c (sides was (expandS Q but (nosOf c) (was.take m))) no = c no := laySides_off fun p hp => by have := sides_side h p hp; omega
  unfold expandM sealCat
  split
  · rw [e]
  · unfold updO; rw [if_neg (by omega), e]
theorem after_side (h : CowSt Q n was) (hc : DataChg c) {a : Int} (h1 : 32 ≤ a) (h2 : a < 96) : after Q n but was m c a = (laySides Q c (sides was (expandS Q but (nosOf c) (was.take m))) a).getD (Q a) := by
  rw [after_at (by unfold mayPage; omega)]
  unfold expandM sealCat
  split
  · rfl
  · unfold updO; rw [if_neg (by omega)]
theorem after_st (h : CowSt Q n was) (hc : DataChg c) : CowSt (after Q n but was m c) n (expandS Q but (nosOf c) (was.take m)) := by
  refine ⟨fun no hn => ?_, by rw [after_cat h hc]; exact (encode_page (after_35 h) (after_good h).1).1⟩
  rw [after_at hn]
  cases e : expandM Q n was (expandS Q but (nosOf c) (was.take m)) c no with
  | none => exact h.long no hn
  | some b => exact after_len h hc no b e
theorem after_new (h : CowSt Q n was) (hc : DataChg c) {k : Nat} {s t : Snap} (hs : (was.take m)[k]? = some s) (ht : (expandS Q but (nosOf c) (was.take m))[k]? = some t) {no : Int} (h1 : 0 ≤ no) (h2 : no < 32) (h3 : t.at no ≠ 0) (h4 : s.at no ≠ t.at no) :
    after Q n but was m c (t.at no) = Q no := by
  have hg := after_good (but := but) (c := c) (m := m) h
  have hsd := t.at_side (hg.1.sides t (List.mem_of_getElem? ht)) no
  have hw := (wasOf_like (xs := []) h.good hs (hg.2.2 k s t hs ht)).2
  have hmem : (t.at no, no) ∈ sides was (expandS Q but (nosOf c) (was.take m)) := List.mem_flatMap.2 ⟨t, List.mem_of_getElem? ht, mem_sideOf.2 ⟨h1, h2, rfl, h3, by rw [hw]; exact h4⟩⟩
  rw [after_side h hc (by omega) (by omega), laySides_on hmem]
  · rfl
  · intro no' hm
    obtain ⟨u, hu, hm⟩ := List.mem_flatMap.1 hm
    obtain ⟨a1, a2, a3, a4, _⟩ := mem_sideOf.1 hm
    obtain ⟨j, hj⟩ := List.getElem?_of_mem hu
    have hpu := u.at_get a4
    rw [← a3] at hpu
    have := (gather_apart hg.1.apart ht hj (t.at_get h3) hpu h3).2
    omega
theorem after_old (h : CowSt Q n was) (hc : DataChg c) {k : Nat} {s t : Snap} (hs : (was.take m)[k]? = some s) (ht : (expandS Q but (nosOf c) (was.take m))[k]? = some t) {no : Int} (h1 : 0 ≤ no) (h3 : t.at no ≠ 0) (h4 : s.at no = t.at no) :
    after Q n but was m c (t.at no) = Q (t.at no) := by
  have hg := after_good (but := but) (c := c) (m := m) h
  have hsd := t.at_side (hg.1.sides t (List.mem_of_getElem? ht)) no
  rw [after_side h hc (by omega) (by omega), laySides_off, hc.2 _ (by omega)]
  · rfl
  · rintro ⟨a, no'⟩ hp e
    dsimp only at e; subst e
    obtain ⟨u, hu, hm⟩ := List.mem_flatMap.1 hp
    obtain ⟨a1, a2, a3, a4, a5⟩ := mem_sideOf.1 hm
    obtain ⟨j, hj⟩ := List.getElem?_of_mem hu
    have hpu := u.at_get a4
    rw [← a3] at hpu
    obtain ⟨e1, e2⟩ := gather_apart hg.1.apart ht hj (t.at_get h3) hpu h3
    subst e1
    rw [ht] at hj; cases hj
    have e3 : no' = no := by omega
    subst e3
    have hw := (wasOf_like (xs := []) h.good hs (hg.2.2 k s t hs ht)).2
    rw [hw] at a5
    exact a5 h4
/-- what a snapshot shows -/
theorem after_shows (h : CowSt Q n was) (hc : DataChg c) {k : Nat} {s t : Snap} (hs : (was.take m)[k]? = some s) (ht : (expandS Q but (nosOf c) (was.take m))[k]? = some t) (hgt : Got Q (nosOf c) s t) (hti : t.inv = false) {no : Int} (h1 : 1 ≤ no) (h2 : no < 32)
    (hu : c no = none ∨ no = 1 ∨ hasB (Q (viewNo s 1)) no = true) : after Q n but was m c (viewNo t no) = Q (viewNo s no) := by
  by_cases ht0 : t.at no = 0
  · have hs0 : s.at no = 0 := Decidable.byContradiction fun hne => by
      rw [hgt.old hti (by omega) hne] at ht0; exact hne ht0
    have e1 : viewNo t no = no := by unfold viewNo; rw [if_neg (fun h => h ht0)]
    have e2 : viewNo s no = no := by unfold viewNo; rw [if_neg (fun h => h hs0)]
    rw [e1, e2, after_data h h1 h2]
    cases hcn : c no with
    | none => rfl
    | some b =>
      exfalso
      have hn : no ∈ nosOf c := nosOf_mem.2 ⟨by omega, h2, by rw [hcn]; rfl⟩
      refine hgt.got hti no hn ?_ ht0
      unfold needsB
      rw [if_neg (fun h => h.elim (fun h => by rw [hgt.inv hti] at h; cases h) (fun h => h hs0))]
      rcases hu with hu | hu | hu
      · rw [hcn] at hu; cases hu
      · rw [if_pos hu]
      · split
        · rfl
        · exact hu
  · have e1 : viewNo t no = t.at no := by unfold viewNo; rw [if_pos ht0]
    rw [e1]
    by_cases hst : s.at no = t.at no
    · rw [after_old h hc hs ht (by omega) ht0 hst]
      unfold viewNo; rw [if_pos (by rw [hst]; exact ht0), hst]
    · rw [after_new h hc hs ht (by omega) h2 ht0 hst]
      have hs0 : s.at no = 0 := Decidable.byContradiction fun hne => hst (hgt.old hti (by omega) hne).symm
      unfold viewNo; rw [if_neg (fun h => h hs0)]
end
theorem chgOf_data {l : List Img} (h : DataImgs l) : DataChg (chgOf l) := ⟨chgOf_len h.1, fun no hno => by
  cases e : chgOf l no with
  | none => rfl
  | some b =>
    have := (chgOf_lay (fun _ => []) l no).2.1 (by rw [e]; rfl)
    obtain ⟨x, hx, rfl⟩ := this
    have := h.2 x hx
    omega⟩
theorem expandC_after (Q : Pages) (n : Int) (xs : List Snap) (l : List Img) : lay Q (expandC Q n xs l) = after Q n 0 xs xs.length (chgOf l) := by
  unfold expandC after; rw [List.take_length]
theorem expandC_may {Q : Pages} {n : Int} {xs : List Snap} (h : CowSt Q n xs) {l : List Img} (hl : DataImgs l) : ∀ x ∈ expandC Q n xs l, mayPage x.1 ∧ x.2.length = 256 := by
  have := after_len (but := 0) (m := xs.length) h (chgOf_data hl)
  rw [List.take_length] at this
  exact imgsOf_may this
theorem expandC_st {Q : Pages} {n : Int} {xs : List Snap} (h : CowSt Q n xs) {l : List Img} (hl : DataImgs l) : CowSt (lay Q (expandC Q n xs l)) n (expandS Q 0 (nosOf (chgOf l)) xs) := by
  have := after_st (but := 0) (m := xs.length) h (chgOf_data hl)
  rw [List.take_length] at this
  rw [expandC_after]; exact this
theorem id_pos {Q : Pages} {n : Int} {xs : List Snap} (h : CowSt Q n xs) {k : Nat} {s : Snap} (hs : xs[k]? = some s) : s.id ≠ 0 := by have := (h.good.each s (List.mem_of_getElem? hs)).2.1; omega
theorem expandC_got {Q : Pages} {n : Int} {xs : List Snap} (h : CowSt Q n xs) (nos : List Int) (hd : nos.Nodup) {k : Nat} {t : Snap} (ht : (expandS Q 0 nos xs)[k]? = some t) : ∃ s, xs[k]? = some s ∧ Got Q nos s t := by
  obtain ⟨s, hs, hk⟩ := expand_at h.good h.h32 hd ht
  rw [if_neg (id_pos h hs)] at hk
  exact ⟨s, hs, hk⟩
theorem expandC_shows {Q : Pages} {n : Int} {xs : List Snap} (h : CowSt Q n xs) {l : List Img} (hl : DataImgs l) {k : Nat} {s t : Snap} (hs : xs[k]? = some s) (ht : (expandS Q 0 (nosOf (chgOf l)) xs)[k]? = some t) (hti : t.inv = false) {no : Int} (h1 : 1 ≤ no) (h2 : no < 32)
    (hu : ¬ Touches l no ∨ no = 1 ∨ hasB (Q (viewNo s 1)) no = true) : lay Q (expandC Q n xs l) (viewNo t no) = Q (viewNo s no) := by
  obtain ⟨s', hs', hg⟩ := expandC_got h (nosOf (chgOf l)) (nosOf_nodup _) ht
  rw [hs] at hs'; cases hs'
  rw [expandC_after]
  refine after_shows (m := xs.length) (but := 0) h (chgOf_data hl) (by rw [List.take_length]; exact hs) (by rw [List.take_length]; exact ht) hg hti h1 h2 (hu.imp_left fun hu => ?_)
  cases e : chgOf l no with
  | none => rfl
  | some b => exact absurd ((chgOf_lay (fun _ => []) l no).2.1 (by rw [e]; rfl)) hu
theorem expandC_data {Q : Pages} {n : Int} {xs : List Snap} (h : CowSt Q n xs) (l : List Img) {no : Int} (h1 : 1 ≤ no) (h2 : no < 32) : lay Q (expandC Q n xs l) no = lay Q l no := by
  rw [expandC_after, after_data h h1 h2, (chgOf_lay Q l no).1]

theorem own_at {tI tU : Nat} {v : Value} {ts : List Im} {H : Chunk} {l : List Img} (h : OwnIms tI tU v ts H) (hl : imgs ts = l) (hm : ∀ x ∈ l, mayPage x.1 ∧ x.2.length = 256) (hf : l.length ≤ 96) {hs : List Chunk} : ImsAt (H :: hs) v ts := by
  subst hl
  rw [imgs_length] at hf
  refine h.at (by omega) fun t ht => ?_
  have : t.b.length = 256 := (hm t.img (List.mem_map.2 ⟨t, ht, rfl⟩)).2
  omega
theorem expandC_len (Q : Pages) (n : Int) (xs : List Snap) (l : List Img) : (expandC Q n xs l).length ≤ 96 := imgsOf_len _ 96
theorem one_data {no : Int} (h1 : 1 ≤ no) (h2 : no < 32) {b : List UInt8} (hb : b.length = 256) : DataImgs [(no, b)] :=
  ⟨⟨by simp, fun x hx => by rw [List.mem_singleton] at hx; subst hx; exact ⟨by unfold mayPage; dsimp only; omega, hb⟩, List.pairwise_singleton _ _⟩, fun x hx => by rw [List.mem_singleton] at hx; subst hx; exact ⟨h1, h2⟩⟩
/-- a snapshot by its name, that is not Invalid -/
def shownOf (xs : List Snap) (nm : ByteArray) : Option Snap := if findAt (named nm) 0 xs < 0 then none else match xs[(findAt (named nm) 0 xs).toNat]? with
  | none => none
  | some s => if s.inv = true then none else some s
theorem shown_at {n : Int} {xs : List Snap} (h : GoodC n xs) {k : Nat} {s : Snap} (hs : xs[k]? = some s) : shownOf xs s.name = if s.inv = true then none else some s := by
  unfold shownOf
  rw [find_self h hs, if_neg (by omega), Int.toNat_natCast, hs]
theorem shown_some {xs : List Snap} {nm : ByteArray} {s : Snap} (h : shownOf xs nm = some s) : ∃ k : Nat, findAt (named nm) 0 xs = k ∧ xs[k]? = some s ∧ s.inv = false := by
  unfold shownOf at h
  split at h
  · cases h
  · rename_i h0
    split at h
    · cases h
    · rename_i t ht
      split at h
      · cases h
      · rename_i hi
        cases h
        exact ⟨_, by omega, ht, by cases e : s.inv with | false => rfl | true => exact (hi e).elim⟩
/-- changes of data pages, in order, each greater than the last -/
def okAfter (out : List Img) (x : Img) : Bool := decide (1 ≤ x.1) && (decide (x.1 < 32) && (decide (x.2.length = 256) && match out.getLast? with | none => true | some y => decide (y.1 < x.1)))
def dataStep (out : List Img) (x : Img) : List Img := if okAfter out x = true then out ++ [x] else out
def dataL (l : List Img) : List Img := l.foldl dataStep []
theorem dataL_succ {l : List Img} {i : Nat} {x : Img} (h : l[i]? = some x) : dataL (l.take (i + 1)) = dataStep (dataL (l.take i)) x := by
  unfold dataL; rw [take_succ h, List.foldl_append]; rfl
theorem dataL_len (l : List Img) : (dataL l).length ≤ l.length := by
  have key : ∀ (l out : List Img), (l.foldl dataStep out).length ≤ out.length + l.length := by
    intro l
    induction l with
    | nil => intro out; exact Nat.le_refl _
    | cons x l ih =>
      intro out
      have h1 := ih (dataStep out x)
      have h2 : (dataStep out x).length ≤ out.length + 1 := by unfold dataStep; split <;> simp
      rw [List.foldl_cons, List.length_cons]; omega
  have := key l []
  rw [List.length_nil, Nat.zero_add] at this
  exact this
theorem dataL_ok (l : List Img) : (∀ x ∈ dataL l, 1 ≤ x.1 ∧ x.1 < 32 ∧ x.2.length = 256) ∧ (dataL l).Pairwise fun x y => x.1 < y.1 := by
  have key : ∀ (l out : List Img), ((∀ x ∈ out, 1 ≤ x.1 ∧ x.1 < 32 ∧ x.2.length = 256) ∧ out.Pairwise fun x y => x.1 < y.1) → (∀ x ∈ l.foldl dataStep out, 1 ≤ x.1 ∧ x.1 < 32 ∧ x.2.length = 256) ∧ (l.foldl dataStep out).Pairwise fun x y => x.1 < y.1 := by
    intro l
    induction l with
    | nil => intro out h; exact h
    | cons x l ih =>
      intro out h
      refine ih _ ?_
      unfold dataStep
      split
      · rename_i hx
        unfold okAfter at hx
        rw [Bool.and_eq_true, Bool.and_eq_true, Bool.and_eq_true, decide_eq_true_eq, decide_eq_true_eq, decide_eq_true_eq] at hx
        obtain ⟨x1, x2, x3, x4⟩ := hx
        refine ⟨fun y hy => ?_, ?_⟩
        · rcases List.mem_append.1 hy with hy | hy
          · exact h.1 y hy
          · rw [List.mem_singleton] at hy; subst hy; exact ⟨x1, x2, x3⟩
        · rw [List.pairwise_append]
          refine ⟨h.2, by simp, fun a ha c hc => ?_⟩
          rw [List.mem_singleton] at hc; subst hc
          cases hl : out.getLast? with
          | none => rw [List.getLast?_eq_none_iff] at hl; subst hl; cases ha
          | some y =>
            rw [hl] at x4
            have x4 : y.1 < c.1 := of_decide_eq_true x4
            obtain ⟨ys, rfl⟩ := List.getLast?_eq_some_iff.1 hl
            rcases List.mem_append.1 ha with ha | ha
            · have := (List.pairwise_append.1 h.2).2.2 a ha y (by simp); omega
            · rw [List.mem_singleton] at ha; subst ha; exact x4
      · exact h
  exact key l [] ⟨by simp, List.Pairwise.nil⟩
theorem dataL_data {l : List Img} (h : dataL l ≠ []) : DataImgs (dataL l) := by
  obtain ⟨h1, h2⟩ := dataL_ok l
  exact ⟨⟨h, fun x hx => ⟨by have := h1 x hx; unfold mayPage; omega, (h1 x hx).2.2⟩, h2⟩, fun x hx => ⟨(h1 x hx).1, (h1 x hx).2.1⟩⟩
/-! ### as long as there are side pages enough -/
theorem takeP_none {xs : List Snap} {a : Int} (h : takeP xs = (a, false)) : 64 ≤ (gather xs).length := by
  have key : ∀ (k : Nat) (m : Int) (l : List Int), (freeAt k m l).2 = false → ∀ j : Nat, j < k → m + j ∈ l := by
    intro k
    induction k with
    | zero => intro m l _ j hj; omega
    | succ k ih =>
      intro m l h j hj
      rw [freeAt] at h
      split at h
      · rename_i hm
        cases j with
        | zero => simpa using hm
        | succ j => have := ih (m + 1) l h j (by omega); rwa [show m + 1 + (j : Int) = m + ((j + 1 : Nat) : Int) by omega] at this
      · cases h
  have h1 : (freeAt 64 32 (copiesP xs)).2 = false := by unfold takeP at h; rw [h]
  have h2 := key 64 32 (copiesP xs) h1
  have h3 : ∀ (k : Nat) (m : Int) (l : List Int), (∀ j : Nat, j < k → m + j ∈ l) → k ≤ l.length := by
    intro k
    induction k with
    | zero => intro m l _; omega
    | succ k ih =>
      intro m l hl
      have hm : m ∈ l := by simpa using hl 0 (by omega)
      have := ih (m + 1) (l.erase m) fun j hj => by
        have := hl (j + 1) (by omega)
        rw [show m + ((j + 1 : Nat) : Int) = m + 1 + j by omega] at this
        exact (List.mem_erase_of_ne (by omega)).2 this
      rw [List.length_erase_of_mem hm] at this
      have := List.length_pos_of_mem hm
      omega
  have := h3 64 32 _ h2
  unfold copiesP at this
  rwa [List.length_mergeSort] at this
/-- a snapshot's copies are of some pages alone -/
def InD (D : List Int) (s : Snap) : Prop := ∀ (j : Nat) (a : Int), s.map[j]? = some a → a ≠ 0 → (j : Int) ∈ D
theorem not0_le : ∀ (m : List Int) (off : Nat) (D : List Int), (∀ (j : Nat) (a : Int), m[j]? = some a → a ≠ 0 → ((off + j : Nat) : Int) ∈ D) → (not0 m).length ≤ D.length := by
  intro m
  induction m with
  | nil => intro off D _; simp [not0]
  | cons y m ih =>
    intro off D h
    by_cases hy : y = 0
    · have e : not0 (y :: m) = not0 m := by simp [not0, hy]
      rw [e]
      exact ih (off + 1) D fun j a hj ha => by
        have := h (j + 1) a (by simpa using hj) ha
        rwa [show off + (j + 1) = off + 1 + j by omega] at this
    · have e : not0 (y :: m) = y :: not0 m := by simp [not0, hy]
      rw [e]
      have h0 : ((off : Nat) : Int) ∈ D := by simpa using h 0 y rfl hy
      have := ih (off + 1) (D.erase (off : Nat)) fun j a hj ha => by
        have := h (j + 1) a (by simpa using hj) ha
        rw [show off + (j + 1) = off + 1 + j by omega] at this
        exact (List.mem_erase_of_ne (by omega)).2 this
      rw [List.length_erase_of_mem h0] at this
      have := List.length_pos_of_mem h0
      simp only [List.length_cons]; omega
theorem gather_le {xs : List Snap} {D : List Int} (h : ∀ s ∈ xs, InD D s) : (gather xs).length ≤ xs.length * D.length :=
  flatMap_length_le _ D.length xs fun s hs => not0_le s.map 0 D fun j a hj ha => by rw [Nat.zero_add]; exact h s hs j a hj ha
theorem takeAll_kept {D : List Int} : ∀ {nos : List Int} {xs : List Snap} {k : Nat}, xs.length * D.length < 64 → (∀ s ∈ xs, s.inv = false ∧ InD D s) → (∀ no ∈ nos, 0 ≤ no ∧ no ∈ D) → ∀ s ∈ takeAll xs k nos, s.inv = false ∧ InD D s := by
  intro nos
  induction nos with
  | nil => intro xs k _ h _; exact h
  | cons no nos ih =>
    intro xs k hl h hn
    rw [takeAll]
    split
    · rename_i a ha
      have h1 := takeP_none ha
      have h2 := gather_le fun s hs => (h s hs).2
      omega
    · rename_i a ha
      refine ih (by rw [List.length_modify]; exact hl) (fun s hs => ?_) fun no h => hn no (by simp [h])
      rcases mem_modify hs with hs | ⟨x, hx, rfl⟩
      · exact h s hs
      · refine ⟨(h x hx).1, fun j b hj hb => ?_⟩
        have hj : (x.map.set no.toNat a)[j]? = some b := hj
        by_cases e : no.toNat = j
        · obtain ⟨n1, n2⟩ := hn no (by simp)
          rw [show (j : Int) = no by omega]; exact n2
        · rw [List.getElem?_set_ne e] at hj
          exact (h x hx).2 j b hj hb
theorem expand_kept {D : List Int} {Q : Pages} {but : Int} {nos : List Int} {xs : List Snap} (hl : xs.length * D.length < 64) (h : ∀ s ∈ xs, s.inv = false ∧ InD D s) (hn : ∀ no ∈ nos, 0 ≤ no ∧ no ∈ D) :
    ∀ s ∈ expandS Q but nos xs, s.inv = false ∧ InD D s := by
  have key : ∀ m : Nat, (((List.range m).foldl (stepS Q but nos) xs).length = xs.length) ∧ ∀ s ∈ (List.range m).foldl (stepS Q but nos) xs, s.inv = false ∧ InD D s := by
    intro m
    induction m with
    | zero => exact ⟨rfl, h⟩
    | succ m ih =>
      rw [fold_succ]
      obtain ⟨i1, i2⟩ := ih
      generalize (List.range m).foldl (stepS Q but nos) xs = ys at i1 i2 ⊢
      refine ⟨by rw [stepS_length]; exact i1, ?_⟩
      unfold stepS
      split
      · exact i2
      · split
        · exact i2
        · unfold copiesC
          split
          · exact i2
          · exact takeAll_kept (by rw [i1]; exact hl) i2 fun no hno => hn no (List.mem_filter.1 hno).1
  exact (key xs.length).2
end Go.Pl
end

section
namespace Go.Pl
open Go Go.Sx

theorem imgsOf_put {c : Chg} {k : Nat} {b : List UInt8} (hk : c (k : Nat) = none) : ∀ {n : Nat}, k < n → (imgsOf (updO c (k : Nat) b) n).length = (imgsOf c n).length + 1 := by
  have low : ∀ {n : Nat}, n ≤ k → imgsOf (updO c (k : Nat) b) n = imgsOf c n := by
    intro n
    induction n with
    | zero => intro _; rfl
    | succ n ih =>
      intro h
      rw [imgsOf_succ, imgsOf_succ, ih (by omega)]
      unfold updO; rw [if_neg (by omega)]
  intro n
  induction n with
  | zero => intro h; omega
  | succ n ih =>
    intro h
    rw [imgsOf_succ, imgsOf_succ, List.length_append, List.length_append]
    by_cases e : n = k
    · subst e
      rw [low (Nat.le_refl _), hk]
      unfold updO; rw [if_pos rfl]; rfl
    · rw [ih (by omega)]
      have e2 : updO c (k : Nat) b (n : Nat) = c (n : Nat) := by unfold updO; rw [if_neg (by omega)]
      rw [e2]
      omega
theorem imgsOf_none (n : Nat) : imgsOf (fun _ => none) n = [] := by
  induction n with
  | zero => rfl
  | succ n ih => rw [imgsOf_succ, ih]; rfl
theorem takeP_small {xs : List Snap} (h : (gather xs).length < 64) : ∃ a, takeP xs = (a, true) := by
  rcases e : takeP xs with ⟨a, b⟩
  cases b with
  | true => exact ⟨a, rfl⟩
  | false => have := takeP_none e; omega
theorem cat_same {Q : Pages} {n : Int} {xs : List Snap} (h : CowSt Q n xs) : (encode n xs).1 = Q 0 := by
  rcases decode_any (Q 0) with h1 | ⟨m, s, h1, h2, _⟩
  · have := h.cat; rw [h1] at this; cases this
  · have := h.cat; rw [h1] at this; cases this; exact h2
theorem cat_other {Q : Pages} {n : Int} {xs ys : List Snap} (h : CowSt Q n xs) (h35 : ∀ s ∈ ys, (encSnap s).length = 35) (hy : GoodC n ys) (hne : ys ≠ xs) : (encode n ys).1 ≠ Q 0 := fun e => by
  have := (encode_page h35 hy).1
  rw [e, h.cat] at this
  cases this; exact hne rfl
theorem chg_one (no : Int) (b : List UInt8) : chgOf [(no, b)] = updO (fun _ => none) no b := rfl
theorem nos_one {no : Int} (h1 : 0 ≤ no) (h2 : no < 32) (b : List UInt8) : ∀ x, x ∈ nosOf (chgOf [(no, b)]) ↔ x = no := fun x => by
  rw [nosOf_mem, chg_one]
  unfold updO
  constructor
  · rintro ⟨_, _, h⟩
    by_cases e : x = no
    · exact e
    · rw [if_neg e] at h; cases h
  · rintro rfl; exact ⟨h1, h2, by rw [if_pos rfl]; rfl⟩
theorem filter_one {l : List Int} (hd : l.Nodup) {no : Int} (hl : ∀ x, x ∈ l ↔ x = no) (p : Int → Bool) : l.filter p = if p no = true then [no] else [] := by
  have e : l = [no] := by
    cases l with
    | nil => exact absurd ((hl no).2 rfl) (by simp)
    | cons y l =>
      have hy := (hl y).1 (by simp); subst hy
      cases l with
      | nil => rfl
      | cons z l =>
        have hz := (hl z).1 (by simp); subst hz
        exact absurd (List.nodup_cons.1 hd).1 (by simp)
  rw [e]
  by_cases h : p no = true <;> simp [h]
/-- a page is changed: the one snapshot has got it, or needs nothing -/
theorem single {Q : Pages} {n : Int} {s : Snap} (h : CowSt Q n [s]) {no : Int} (h1 : 1 ≤ no) (h2 : no < 32) {b : List UInt8} :
    (needsB Q s no = false ∧ expandS Q 0 (nosOf (chgOf [(no, b)])) [s] = [s] ∧ (expandC Q n [s] [(no, b)]).length = 1) ∨
    (needsB Q s no = true ∧ ∃ a, 32 ≤ a ∧ a < 96 ∧ expandS Q 0 (nosOf (chgOf [(no, b)])) [s] = [give s no a] ∧ (expandC Q n [s] [(no, b)]).length = 3) := by
  have hid : s.id ≠ 0 := id_pos h (k := 0) rfl
  have h32 := h.h32 s (by simp)
  obtain ⟨k, rfl⟩ : ∃ k : Nat, no = k := ⟨no.toNat, by omega⟩
  have hE : expandS Q 0 (nosOf (chgOf [((k : Int), b)])) [s] = takeAll [s] 0 ((nosOf (chgOf [((k : Int), b)])).filter (needsB Q s)) := by
    show stepS Q 0 _ [s] 0 = _
    unfold stepS copiesC
    simp only [List.getElem?_cons_zero, if_neg hid]
  rw [filter_one (nosOf_nodup _) (nos_one (by omega) h2 b)] at hE
  cases hn : needsB Q s (k : Nat) with
  | false =>
    left
    rw [hn, if_neg (by simp), takeAll] at hE
    refine ⟨rfl, hE, ?_⟩
    unfold expandC expandM sealCat
    rw [hE, if_pos (cat_same h)]
    have hs : sides [s] [s] = [] := by
      unfold sides
      rw [List.flatMap_singleton, (wasOf_like (xs := []) (m := 1) h.good (k := 0) (s := s) rfl (.refl s)).2]
      unfold sideOf
      rw [List.filter_eq_nil_iff]
      intro p hp
      obtain ⟨j, _, rfl⟩ := List.mem_map.1 hp
      simp
    rw [hs]
    show (imgsOf (updO (fun _ => none) (k : Nat) b) 96).length = 1
    rw [imgsOf_put rfl (by omega), imgsOf_none]; rfl
  | true =>
    right
    have hat := (needsB_true hn).2.1
    obtain ⟨a, ha⟩ : ∃ a, takeP [s] = (a, true) := takeP_small (by
      have hg : gather [s] = not0 s.map := by unfold gather; rw [List.flatMap_singleton]
      rw [hg]
      have := not0_length s.map; omega)
    obtain ⟨t1, t2, t3⟩ := takeP_side ha
    rw [hn, if_pos rfl, takeAll, ha] at hE
    have hE : expandS Q 0 (nosOf (chgOf [((k : Int), b)])) [s] = [give s (k : Nat) a] := hE
    refine ⟨rfl, a, t1, t2, hE, ?_⟩
    have hg := expandS_good (Q := Q) (but := 0) h.good h.h32 (nosOf_nodup (chgOf [((k : Int), b)]))
    rw [hE] at hg
    have hk : k < s.map.length := by omega
    have hga : (give s (k : Nat) a).at (k : Nat) = a := by rw [at_give hk _ _ (by omega), if_pos rfl]
    have hne : [give s (k : Nat) a] ≠ [s] := fun e => by
      injection e with e
      rw [e] at hga; omega
    unfold expandC expandM sealCat
    rw [hE, if_neg (cat_other h (fun t ht => by rw [List.mem_singleton] at ht; subst ht; rw [len35]; exact List.length_set.trans h32) hg.1 hne)]
    have hs : sides [s] [give s (k : Nat) a] = [(a, (k : Int))] := by
      unfold sides
      rw [List.flatMap_singleton, (wasOf_like (xs := []) (m := 1) h.good (k := 0) (s := s) (t := give s (k : Nat) a) rfl ⟨rfl, rfl, List.length_set⟩).2]
      have key : ∀ m : Nat, sideOf s (give s (k : Nat) a) m = if k < m then [(a, (k : Int))] else [] := by
        intro m
        induction m with
        | zero => rw [if_neg (by omega)]; rfl
        | succ m ih =>
          rw [sideOf_succ, ih]
          by_cases e : m = k
          · subst e
            rw [if_neg (by omega), hga, hat, if_pos ⟨by omega, by omega⟩, if_pos (by omega)]; rfl
          · have : (give s (k : Nat) a).at (m : Nat) = s.at (m : Nat) := by rw [at_give hk _ _ (by omega), if_neg (by omega)]
            have e0 : (if s.at (m : Nat) ≠ 0 ∧ s.at (m : Nat) ≠ s.at (m : Nat) then [(s.at (m : Nat), (m : Int))] else []) = [] := if_neg (fun h => h.2 rfl)
            rw [this, e0, List.append_nil]
            by_cases hm : k < m
            · rw [if_pos hm, if_pos (by omega)]
            · rw [if_neg hm, if_neg (by omega)]
      rw [key 32, if_pos (by omega)]
    rw [hs]
    show (imgsOf (updO (updO (updO (fun _ => none) (k : Nat) b) a (Q (k : Nat))) ((0 : Nat) : Int) _) 96).length = 3
    obtain ⟨a', rfl⟩ : ∃ a' : Nat, a = a' := ⟨a.toNat, by omega⟩
    rw [imgsOf_put (by unfold updO; rw [if_neg (by omega), if_neg (by omega)]) (by omega), imgsOf_put (by unfold updO; rw [if_neg (by omega)]) (by omega), imgsOf_put rfl (by omega), imgsOf_none]; rfl
/-- one snapshot s, that has the page no as it was: what is kept while it is changed again and again -/
structure One (Q : Pages) (s : Snap) (no : Int) (old : List UInt8) : Prop where
  st : CowSt Q 1 [s]
  inv : s.inv = false
  shows : Q (viewNo s no) = old
  used : hasB (Q (viewNo s 1)) no = true
  only : InD [no] s
theorem One.step {Q : Pages} {s : Snap} {no : Int} {old : List UInt8} (h : One Q s no old) (h1 : 2 ≤ no) (h2 : no < 32) {b : List UInt8} (hb : b.length = 256) :
    (expandC Q 1 [s] [(no, b)]).length = (if s.at no = 0 then 3 else 1) ∧ ∃ t, t.name = s.name ∧ t.at no ≠ 0 ∧ One (lay Q (expandC Q 1 [s] [(no, b)])) t no old := by
  have hd := one_data (b := b) (show 1 ≤ no by omega) h2 hb
  have hst := expandC_st h.st hd
  have hsh := fun (t : Snap) (ht : (expandS Q 0 (nosOf (chgOf [(no, b)])) [s])[0]? = some t) (hti : t.inv = false) => (expandC_shows h.st hd (k := 0) rfl ht hti (no := no) (by omega) h2 (.inr (.inr h.used)))
  have hsh1 := fun (t : Snap) (ht : (expandS Q 0 (nosOf (chgOf [(no, b)])) [s])[0]? = some t) (hti : t.inv = false) => (expandC_shows h.st hd (k := 0) rfl ht hti (no := 1) (by omega) (by omega) (.inr (.inl rfl)))
  have hn : needsB Q s no = if s.at no = 0 then true else false := by
    unfold needsB
    by_cases h0 : s.at no = 0
    · rw [if_neg (fun hh => hh.elim (fun hh => by rw [h.inv] at hh; cases hh) (fun hh => hh h0)), if_neg (by omega), if_pos h0]; exact h.used
    · rw [if_pos (.inr h0), if_neg h0]
  rcases single h.st (show 1 ≤ no by omega) h2 (b := b) with ⟨e1, e2, e3⟩ | ⟨e1, a, a1, a2, e2, e3⟩
  · have h0 : s.at no ≠ 0 := fun h0 => by rw [hn, if_pos h0] at e1; cases e1
    rw [e2] at hst hsh hsh1
    exact ⟨by rw [e3, if_neg h0], s, rfl, h0, hst, h.inv, by rw [hsh s rfl h.inv]; exact h.shows, by rw [hsh1 s rfl h.inv]; exact h.used, h.only⟩
  · have h0 : s.at no = 0 := Decidable.byContradiction fun h0 => by rw [hn, if_neg h0] at e1; cases e1
    rw [e2] at hst hsh hsh1
    have hm : no.toNat < s.map.length := by rw [h.st.h32 s (by simp)]; omega
    have hga : (give s no a).at no = a := by
      have := at_give hm a no (by omega)
      rw [show ((no.toNat : Nat) : Int) = no by omega, if_pos rfl] at this; exact this
    exact ⟨by rw [e3, if_pos h0], give s no a, rfl, by rw [hga]; omega, hst, h.inv, by rw [hsh _ rfl h.inv]; exact h.shows, by rw [hsh1 _ rfl h.inv]; exact h.used, fun j b hj hb => by
      have hj : (s.map.set no.toNat a)[j]? = some b := hj
      by_cases e : no.toNat = j
      · rw [List.mem_singleton]; omega
      · rw [List.getElem?_set_ne e] at hj; exact h.only j b hj hb⟩
theorem one_back {Q : Pages} {s : Snap} {no : Int} {old : List UInt8} (h : One Q s no old) (h1 : 2 ≤ no) (h2 : no < 32) (ha : s.at no ≠ 0) (hne : old ≠ Q no) : revertC Q 1 [s] 0 s = [(no, old)] := by
  have hid : s.id = s.id := rfl
  have hk : Q (s.at no) = old := by have := h.shows; unfold viewNo at this; rwa [if_pos ha] at this
  obtain ⟨m, rfl⟩ : ∃ m : Nat, no = m := ⟨no.toNat, by omega⟩
  have hb : ∀ n : Nat, backTo Q s n = if m < n then updO (fun _ => none) (m : Nat) old else fun _ => none := by
    intro n
    induction n with
    | zero => rw [if_neg (by omega)]; rfl
    | succ n ih =>
      rw [backTo_succ, ih]
      by_cases e : n = m
      · subst e
        rw [if_neg (fun hh => by rcases hh with hh | hh | hh; omega; exact ha hh; exact hne (hk.symm.trans hh)), if_neg (by omega), if_pos (by omega), hk]
      · have h0 : s.at (n : Nat) = 0 := Decidable.byContradiction fun h0 => by
          have := h.only n _ (by have := s.at_get h0; rwa [Int.toNat_natCast] at this) h0
          rw [List.mem_singleton] at this; omega
        rw [if_pos (.inr (.inl h0))]
        by_cases hm : m < n
        · rw [if_pos hm, if_pos (by omega)]
        · rw [if_neg hm, if_neg (by omega)]
  have hE : ∀ nos, expandS Q s.id nos [s] = [s] := fun nos => by
    show stepS Q s.id nos [s] 0 = _
    unfold stepS
    simp only [List.getElem?_cons_zero, if_pos]
  have hs : sides [s] [s] = [] := by
    unfold sides
    rw [List.flatMap_singleton, (wasOf_like (xs := []) (m := 1) h.st.good (k := 0) (s := s) rfl (.refl s)).2]
    unfold sideOf
    rw [List.filter_eq_nil_iff]
    intro p hp
    obtain ⟨j, _, rfl⟩ := List.mem_map.1 hp
    simp
  unfold revertC
  rw [show [s].take (0 + 1) = [s] from rfl, hE]
  unfold expandM sealCat
  rw [if_pos (cat_same h.st), hs, hb 32, if_pos (by omega)]
  show imgsOf (updO (fun _ => none) (m : Nat) old) 96 = _
  have hl := imgsOf_put (c := fun _ => none) (k := m) (b := old) rfl (n := 96) (by omega)
  rw [imgsOf_none] at hl
  have hmem : ((m : Int), old) ∈ imgsOf (updO (fun _ => none) (m : Nat) old) 96 := imgsOf_mem.2 ⟨m, by omega, by unfold updO; rw [if_pos rfl], rfl⟩
  cases hi : imgsOf (updO (fun _ => none) (m : Nat) old) 96 with
  | nil => rw [hi] at hmem; cases hmem
  | cons y l =>
    rw [hi] at hl hmem
    simp only [List.length_cons, List.length_nil] at hl
    cases l with
    | nil => rw [List.mem_singleton] at hmem; rw [hmem]
    | cons z l => simp at hl
theorem u8_is (z : Int) : ∃ x : UInt8, IntKind.u8.wrap z = (x.toNat : Int) := ⟨b8 z, b8_wrap z⟩
theorem viewPg_ok {Q : Pages} {s : Snap} (hs : s.side) {no : Int} (h1 : 1 ≤ no) (h2 : no < 32) : viewPg s (pgOf Q) no = (0, Q (viewNo s no)) := by
  unfold viewPg pgOf
  rw [if_neg (by omega), if_pos (viewNo_may hs (by unfold mayPage; omega))]
/-- one bit alone -/
def bitAt (no : Nat) : List UInt8 := (List.replicate 256 0).set (no / 8) (UInt8.ofNat (2 ^ (no % 8)))
theorem bit_byte : ∀ m : Fin 8, IntKind.u8.wrap (1 * 2 ^ min ((m.val : Nat) : Int).toNat IntKind.u8.bits) = ((UInt8.ofNat (2 ^ m.val)).toNat : Int) := by decide +kernel
theorem bit_has : ∀ no : Fin 32, 2 ≤ no.val → hasB (bitAt no.val) (no.val : Nat) = true := by decide +kernel
theorem bitAt_len (no : Nat) : (bitAt no).length = 256 := by unfold bitAt; rw [List.length_set, List.length_replicate]
theorem nought_has (no : Int) : hasB (List.replicate 256 0) no = false := by
  unfold hasB
  have : (List.replicate 256 (0 : UInt8)).getD (no.toNat / 8) 0 = 0 := by
    rw [List.getD_eq_getElem?_getD, List.getElem?_replicate]; split <;> rfl
  rw [this]
  have e : decide ((0 : UInt8).toNat / 2 ^ (no.toNat % 8) % 2 = 1) = false := decide_eq_false (by simp)
  rw [e, Bool.and_false]
theorem newSnap_only (nm : ByteArray) (id : Int) (D : List Int) : InD D (newSnap nm id) := fun j a hj ha => absurd (List.eq_of_mem_replicate (List.mem_of_getElem? hj)) ha
/-- the name of the one snapshot -/
def nmS : ByteArray := ⟨#[115]⟩
theorem addS : addC 0 [] nmS = ((1, [newSnap nmS 1]), 0) := by kernel_rfl
theorem mayS : mayB 1 [newSnap nmS 1] = true := by kernel_rfl
theorem encS_len : (encode 1 [newSnap nmS 1]).1.length = 256 := encode_256 (fun s hs => by rw [List.mem_singleton] at hs; subst hs; rfl) mayS
theorem st_one {Q : Pages} (hQ : ∀ no, mayPage no → (Q no).length = 256) : CowSt (upd Q 0 (encode 1 [newSnap nmS 1]).1) 1 [newSnap nmS 1] := by
  refine ⟨fun no hn => ?_, ?_⟩
  · unfold upd; split
    · exact encS_len
    · exact hQ no hn
  · unfold upd; rw [if_pos rfl]
    exact (encode_page (fun s hs => by rw [List.mem_singleton] at hs; subst hs; rfl) (may_iff.1 mayS)).1
theorem newSnap_at (nm : ByteArray) (id no : Int) : (newSnap nm id).at no = 0 := by
  unfold Snap.at newSnap
  rw [List.getD_eq_getElem?_getD, List.getElem?_replicate]
  split <;> rfl
theorem newSnap_view (nm : ByteArray) (id no : Int) : viewNo (newSnap nm id) no = no := by unfold viewNo; rw [newSnap_at, if_neg (by simp)]
end Go.Pl
end

section
namespace Go.Pl
open Go Go.Sx

/-- each snapshot shows what was, of the pages that were in use -/
structure Keeps (Q : Pages) (n : Int) (xs : List Snap) (ws : List Pages) : Prop where
  st : CowSt Q n xs
  len : ws.length = xs.length
  shows : ∀ (k : Nat) (s : Snap) (w : Pages), xs[k]? = some s → ws[k]? = some w → s.inv = false → ∀ no, 1 ≤ no → no < 32 → (no = 1 ∨ hasB (w 1) no = true) → Q (viewNo s no) = w no
theorem Keeps.step {Q : Pages} {n : Int} {xs : List Snap} {ws : List Pages} (h : Keeps Q n xs ws) {l : List Img} (hl : DataImgs l) : Keeps (lay Q (expandC Q n xs l)) n (expandS Q 0 (nosOf (chgOf l)) xs) ws := by
  have hlk := (expandS_good (Q := Q) (but := 0) h.st.good h.st.h32 (nosOf_nodup (chgOf l))).2
  refine ⟨expandC_st h.st hl, h.len.trans hlk.1, fun k t w ht hw hti no h1 h2 hu => ?_⟩
  obtain ⟨s, hs, hg⟩ := expandC_got h.st _ (nosOf_nodup _) ht
  have hsi := hg.inv hti
  have hs1 := h.shows k s w hs hw hsi 1 (by omega) (by omega) (.inl rfl)
  rw [expandC_shows h.st hl hs ht hti h1 h2 (.inr (hu.imp_right fun hb => by rw [hs1]; exact hb))]
  exact h.shows k s w hs hw hsi no h1 h2 hu
def nmK (k : Nat) : ByteArray := txt [b8 (97 + (k : Int))]
theorem nmK_ok : ∀ k : Fin 8, nameB (nmK k.val) = true := by decide +kernel
theorem nmK_apart : ∀ i j : Fin 8, nmK i.val = nmK j.val → i = j := by decide +kernel
def Named (xs : List Snap) : Prop := ∀ (k : Nat) (s : Snap), xs[k]? = some s → s.name = nmK k
theorem Named.likes {xs ys : List Snap} (h : Named xs) (hl : Likes xs ys) : Named ys := fun k t ht => by
  obtain ⟨s, hs⟩ := nth (l := xs) (i := k) (by rw [hl.1]; exact (List.getElem?_eq_some_iff.1 ht).1)
  rw [(hl.2 k s t hs ht).name]; exact h k s hs
theorem Named.take {xs : List Snap} (h : Named xs) (m : Nat) : Named (xs.take m) := fun k s hs => by
  rw [List.getElem?_take] at hs
  split at hs
  · exact h k s hs
  · cases hs
theorem Named.find {n : Int} {xs : List Snap} (h : Named xs) (hg : GoodC n xs) {k : Nat} (hk : k < xs.length) : findAt (named (nmK k)) 0 xs = k := by
  obtain ⟨s, hs⟩ := nth hk
  have := find_self hg hs
  rwa [h k s hs] at this
theorem Named.none {n : Int} {xs : List Snap} (h : Named xs) (hg : GoodC n xs) {k : Nat} (hk : xs.length ≤ k) (h8 : k < 8) : findAt (named (nmK k)) 0 xs < 0 := by
  refine Int.not_le.1 fun h0 => ?_
  obtain ⟨x, hx, hp⟩ := (findAt_nonneg ..).1 h0
  obtain ⟨j, hj⟩ := List.getElem?_of_mem hx
  have hjl := (List.getElem?_eq_some_iff.1 hj).1
  have hn := h j x hj
  unfold named at hp
  have := of_decide_eq_true hp
  rw [hn] at this
  have hf := hg.few
  have := nmK_apart ⟨j, by omega⟩ ⟨k, h8⟩ this
  injection this with e; omega
theorem shown_named {n : Int} {xs : List Snap} (h : Named xs) (hg : GoodC n xs) {k : Nat} {s : Snap} (hs : xs[k]? = some s) : shownOf xs (nmK k) = if s.inv = true then none else some s := by
  have := shown_at hg hs
  rwa [h k s hs] at this
theorem shown_gone {n : Int} {xs : List Snap} (h : Named xs) (hg : GoodC n xs) {k : Nat} (hk : xs.length ≤ k) (h8 : k < 8) : shownOf xs (nmK k) = Option.none := by
  unfold shownOf; rw [if_pos (h.none hg hk h8)]
/-- one snapshot more -/
theorem Named.add {n : Int} {xs : List Snap} (h : Named xs) (hg : GoodC n xs) (hn : n = xs.length) (hl : xs.length < 4) :
    addC n xs (nmK xs.length) = ((n + 1, xs ++ [newSnap (nmK xs.length) (n + 1)]), 0) ∧ GoodC (n + 1) (xs ++ [newSnap (nmK xs.length) (n + 1)]) ∧ Named (xs ++ [newSnap (nmK xs.length) (n + 1)]) := by
  have hnm := nmK_ok ⟨xs.length, by omega⟩
  have hf := h.none hg (Nat.le_refl _) (by omega)
  have hn0 := hg.n0
  refine ⟨?_, ?_, ?_⟩
  · unfold addC
    rw [if_neg (by rw [hnm]; simp), if_neg (by omega), if_neg (by omega)]
  · have h0 : MapOk (newSnap (nmK xs.length) (n + 1)) ∧ not0 (newSnap (nmK xs.length) (n + 1)).map = [] :=
      ⟨⟨(lose_ok (newSnap (nmK xs.length) (n + 1))).1.1, fun a ha => .inl (List.eq_of_mem_replicate ha), (lose_ok (newSnap (nmK xs.length) (n + 1))).1.2.2⟩, (lose_ok (newSnap (nmK xs.length) (n + 1))).2⟩
    refine ⟨by omega, by omega, by rw [List.length_append]; simp; omega, fun s hs => ?_, ?_, ?_, ?_⟩
    · rcases List.mem_append.1 hs with hs | hs
      · obtain ⟨a1, a2, a3, a4⟩ := hg.each s hs; exact ⟨a1, a2, by omega, a4⟩
      · rw [List.mem_singleton] at hs; subst hs
        exact ⟨hnm, by show 0 < n + 1; omega, Int.le_refl _, h0.1⟩
    · rw [List.pairwise_append]
      refine ⟨hg.ids, by simp, fun a ha b hb => ?_⟩
      rw [List.mem_singleton] at hb; subst hb
      have := (hg.each a ha).2.2.1
      show a.id < n + 1; omega
    · rw [List.pairwise_append]
      refine ⟨hg.names, by simp, fun a ha b hb => ?_⟩
      rw [List.mem_singleton] at hb; subst hb
      intro e
      refine absurd ((findAt_nonneg (named (nmK xs.length)) xs 0).2 ⟨a, ha, by unfold named; rw [e]; exact decide_eq_true rfl⟩) (by omega)
    · have e : gather (xs ++ [newSnap (nmK xs.length) (n + 1)]) = gather xs := by
        unfold gather; rw [List.flatMap_append, List.flatMap_singleton, h0.2, List.append_nil]
      rw [e]; exact hg.apart
  · intro k s hs
    rw [List.getElem?_append] at hs
    split at hs
    · exact h k s hs
    · rename_i hk
      have := (List.getElem?_eq_some_iff.1 hs).1
      simp only [List.length_singleton] at this
      rw [show k - xs.length = 0 by omega] at hs
      cases hs
      rw [show k = xs.length by omega]; rfl
theorem add_35 {xs : List Snap} (h : ∀ s ∈ xs, (encSnap s).length = 35) (nm : ByteArray) (id : Int) : ∀ s ∈ xs ++ [newSnap nm id], (encSnap s).length = 35 := fun s hs => by
  rcases List.mem_append.1 hs with hs | hs
  · exact h s hs
  · rw [List.mem_singleton] at hs; subst hs; exact len_newSnap nm id
theorem st_upd {Q : Pages} (hQ : ∀ no, mayPage no → (Q no).length = 256) {n : Int} {xs : List Snap} (h35 : ∀ s ∈ xs, (encSnap s).length = 35) (hg : GoodC n xs) : CowSt (upd Q 0 (encode n xs).1) n xs := by
  have he := encode_page h35 hg
  refine ⟨fun no hn => ?_, by unfold upd; rw [if_pos rfl]; exact he.1⟩
  unfold upd; split
  · exact he.2
  · exact hQ no hn
theorem viewNo_1 {s : Snap} (hs : s.side) {no : Int} (h1 : 1 ≤ no) : viewNo s no ≠ 0 := by
  unfold viewNo
  have := s.at_side hs no
  split <;> omega
theorem Keeps.snap {Q : Pages} {n : Int} {xs : List Snap} {ws : List Pages} (h : Keeps Q n xs ws) {nm : ByteArray} (hg : GoodC (n + 1) (xs ++ [newSnap nm (n + 1)])) :
    Keeps (upd Q 0 (encode (n + 1) (xs ++ [newSnap nm (n + 1)])).1) (n + 1) (xs ++ [newSnap nm (n + 1)]) (ws ++ [Q]) := by
  refine ⟨st_upd h.st.long (add_35 h.st.h35 nm (n + 1)) hg, by rw [List.length_append, List.length_append, h.len]; rfl, fun k s w hs hw hi no h1 h2 hu => ?_⟩
  have hsd := hg.sides s (List.mem_of_getElem? hs)
  unfold upd
  rw [if_neg (viewNo_1 hsd h1)]
  rw [List.getElem?_append] at hs hw
  rw [h.len] at hw
  split at hs
  · rename_i hk
    rw [if_pos hk] at hw
    exact h.shows k s w hs hw hi no h1 h2 hu
  · rename_i hk
    rw [if_neg hk] at hw
    have := (List.getElem?_eq_some_iff.1 hs).1
    simp only [List.length_singleton] at this
    rw [show k - xs.length = 0 by omega] at hs hw
    cases hs; cases hw
    rw [newSnap_view]
theorem Keeps.none {Q : Pages} (hQ : ∀ no, mayPage no → (Q no).length = 256) (h0 : Q 0 = noughts 256) : Keeps Q 0 [] [] := ⟨⟨hQ, by rw [h0]; exact dec0⟩, rfl, fun k s w hs => by cases hs⟩
/-- none is Invalid; copies are of some pages alone -/
def Kept (D : List Int) (xs : List Snap) : Prop := ∀ s ∈ xs, s.inv = false ∧ InD D s
theorem Kept.snap {D : List Int} {xs : List Snap} (h : Kept D xs) (nm : ByteArray) (id : Int) : Kept D (xs ++ [newSnap nm id]) := fun s hs => by
  rcases List.mem_append.1 hs with hs | hs
  · exact h s hs
  · rw [List.mem_singleton] at hs; subst hs; exact ⟨rfl, newSnap_only nm id D⟩
theorem Kept.more {D D' : List Int} {xs : List Snap} (h : Kept D xs) (hd : ∀ x ∈ D, x ∈ D') : Kept D' xs := fun s hs => ⟨(h s hs).1, fun j a hj ha => hd _ ((h s hs).2 j a hj ha)⟩
theorem Kept.step {D : List Int} {Q : Pages} {but : Int} {nos : List Int} {xs : List Snap} (h : Kept D xs) (hl : xs.length * D.length < 64) (hn : ∀ no ∈ nos, 0 ≤ no ∧ no ∈ D) : Kept D (expandS Q but nos xs) := expand_kept hl h hn
end Go.Pl
end

section
namespace Go.Pl
open Go Go.Sx

theorem backTo_at (Q : Pages) (s : Snap) (n : Nat) (no : Int) : backTo Q s n no = if 0 < no ∧ no < n ∧ s.at no ≠ 0 ∧ Q (s.at no) ≠ Q no then some (Q (s.at no)) else none := by
  induction n with
  | zero => rw [if_neg (by omega)]; rfl
  | succ n ih =>
    rw [backTo_succ]
    by_cases e : no = (n : Int)
    · subst e
      by_cases hc : ((n : Int) = 0 ∨ s.at (n : Nat) = 0 ∨ Q (s.at (n : Nat)) = Q (n : Nat))
      · rw [if_pos hc, ih, if_neg (fun h => by omega), if_neg (fun h => by rcases hc with hc | hc | hc; omega; exact h.2.2.1 hc; exact h.2.2.2 hc)]
      · rw [if_neg hc, if_pos ⟨by omega, by omega, fun h => hc (.inr (.inl h)), fun h => hc (.inr (.inr h))⟩]
        unfold updO; rw [if_pos rfl]
    · have e2 : (if (n : Int) = 0 ∨ s.at (n : Nat) = 0 ∨ Q (s.at (n : Nat)) = Q (n : Nat) then backTo Q s n else updO (backTo Q s n) (n : Nat) (Q (s.at (n : Nat)))) no = backTo Q s n no := by
        split
        · rfl
        · unfold updO; rw [if_neg e]
      rw [e2, ih]
      by_cases hc : 0 < no ∧ no < (n : Int) ∧ s.at no ≠ 0 ∧ Q (s.at no) ≠ Q no
      · rw [if_pos hc, if_pos ⟨hc.1, by omega, hc.2.2⟩]
      · rw [if_neg hc, if_neg (fun h => hc ⟨h.1, by omega, h.2.2⟩)]
theorem backTo_data {Q : Pages} (hQ : ∀ no, mayPage no → (Q no).length = 256) {s : Snap} (hs : s.side) : DataChg (backTo Q s 32) :=
  ⟨backTo_len hQ hs 32, fun no h => by rw [backTo_at, if_neg (by omega)]⟩
theorem InD.at {D : List Int} {s : Snap} (h : InD D s) {no : Int} (h0 : 0 ≤ no) (ha : s.at no ≠ 0) : no ∈ D := by
  have := h no.toNat _ (s.at_get ha) ha
  rwa [show ((no.toNat : Nat) : Int) = no by omega] at this
theorem back_st {Q : Pages} {n : Int} {xs : List Snap} {ws : List Pages} {D : List Int} (hK : Keeps Q n xs ws) (hk : Kept D xs) (hD : xs.length * D.length < 64) {q : Nat} {s : Snap} (hs : xs[q]? = some s)
    (hall : ∀ w ∈ ws, ∀ no, 2 ≤ no → no < 32 → hasB (w 1) no = true) :
    CowSt (after Q n s.id xs (q + 1) (backTo Q s 32)) n (expandS Q s.id (nosOf (backTo Q s 32)) (xs.take (q + 1))) ∧ Likes (xs.take (q + 1)) (expandS Q s.id (nosOf (backTo Q s 32)) (xs.take (q + 1))) ∧
    (∀ (k : Nat) (t : Snap) (w : Pages), (expandS Q s.id (nosOf (backTo Q s 32)) (xs.take (q + 1)))[k]? = some t → ws[k]? = some w → t.inv = false ∧ ∀ no, 1 ≤ no → no < 32 → after Q n s.id xs (q + 1) (backTo Q s 32) (viewNo t no) = w no) ∧
    ∀ w, ws[q]? = some w → ∀ no, 1 ≤ no → no < 32 → after Q n s.id xs (q + 1) (backTo Q s 32) no = w no := by
  have hg := hK.st.good
  have hsd := hg.sides s (List.mem_of_getElem? hs)
  have hc := backTo_data hK.st.long hsd
  have hss := hk s (List.mem_of_getElem? hs)
  have hst := after_st (but := s.id) (m := q + 1) hK.st hc
  have hgd := after_good (but := s.id) (m := q + 1) (c := backTo Q s 32) hK.st
  have hkt : Kept D (xs.take (q + 1)) := fun t ht => hk t (List.mem_of_mem_take ht)
  have hkx : Kept D (expandS Q s.id (nosOf (backTo Q s 32)) (xs.take (q + 1))) := hkt.step (by
    have := List.length_take_le (q + 1) xs
    have h2 : (xs.take (q + 1)).length ≤ xs.length := by rw [List.length_take]; omega
    exact Nat.lt_of_le_of_lt (Nat.mul_le_mul_right _ h2) hD) fun no hno => by
      obtain ⟨h1, h2, h3⟩ := nosOf_mem.1 hno
      refine ⟨h1, ?_⟩
      rw [backTo_at] at h3
      split at h3
      · rename_i hc; exact hss.2.at h1 hc.2.2.1
      · cases h3
  refine ⟨hst, hgd.2, fun k t w ht hw => ⟨(hkx t (List.mem_of_getElem? ht)).1, fun no h1 h2 => ?_⟩, fun w hw no h1 h2 => ?_⟩
  · have hti := (hkx t (List.mem_of_getElem? ht)).1
    have hkl := (List.getElem?_eq_some_iff.1 ht).1
    obtain ⟨u, hu⟩ := nth (l := xs.take (q + 1)) (i := k) (by rw [hgd.2.1]; exact hkl)
    have hux : xs[k]? = some u := by rw [List.getElem?_take] at hu; split at hu; exact hu; cases hu
    have hui := (hk u (List.mem_of_getElem? hux)).1
    have hw1 := hK.shows k u w hux hw hui 1 (by omega) (by omega) (.inl rfl)
    have hsh : Q (viewNo u no) = w no := hK.shows k u w hux hw hui no h1 h2 (by
      by_cases e : no = 1
      · exact .inl e
      · exact .inr (hall w (List.mem_of_getElem? hw) no (by omega) h2))
    have hgot := expand_got (but := s.id) (Q := Q) (hg.take (q + 1)) (fun s hs => hK.st.h32 s (List.mem_of_mem_take hs)) (nosOf_nodup (backTo Q s 32)) hu ht
    by_cases hb : u.id = s.id
    · rw [if_pos hb] at hgot
      subst hgot
      have hks : k = q := by
        rcases Nat.lt_trichotomy k q with h | h | h
        · obtain ⟨a1, a2⟩ := List.getElem?_eq_some_iff.1 hux
          obtain ⟨b1, b2⟩ := List.getElem?_eq_some_iff.1 hs
          have := List.pairwise_iff_getElem.1 hg.ids k q a1 b1 h
          rw [a2, b2] at this; omega
        · exact h
        · obtain ⟨a1, a2⟩ := List.getElem?_eq_some_iff.1 hux
          obtain ⟨b1, b2⟩ := List.getElem?_eq_some_iff.1 hs
          have := List.pairwise_iff_getElem.1 hg.ids q k b1 a1 h
          rw [a2, b2] at this; omega
      subst hks
      rw [hs] at hux; cases hux
      rw [← hsh]
      by_cases h0 : s.at no = 0
      · have e : viewNo s no = no := by unfold viewNo; rw [if_neg (fun h => h h0)]
        rw [e, after_data hK.st h1 h2, backTo_at, if_neg (fun h => h.2.2.1 h0)]; rfl
      · have e : viewNo s no = s.at no := by unfold viewNo; rw [if_pos h0]
        rw [e]
        exact after_old hK.st hc hu ht (by omega) h0 rfl
    · rw [if_neg hb] at hgot
      rw [after_shows hK.st hc hu ht hgot hti h1 h2 (.inr (by
        by_cases e : no = 1
        · exact .inl e
        · exact .inr (by rw [hw1]; exact hall w (List.mem_of_getElem? hw) no (by omega) h2)))]
      exact hsh
  · have hsh : Q (viewNo s no) = w no := hK.shows q s w hs hw hss.1 no h1 h2 (by
      by_cases e : no = 1
      · exact .inl e
      · exact .inr (hall w (List.mem_of_getElem? hw) no (by omega) h2))
    rw [after_data hK.st h1 h2, backTo_at, ← hsh]
    by_cases h0 : s.at no = 0
    · rw [if_neg (fun h => h.2.2.1 h0)]
      unfold viewNo; rw [if_neg (fun h => h h0)]; rfl
    · have e : viewNo s no = s.at no := by unfold viewNo; rw [if_pos h0]
      rw [e]
      by_cases hq : Q (s.at no) = Q no
      · rw [if_neg (fun h => h.2.2.2 hq)]; exact hq.symm
      · rw [if_pos ⟨by omega, by omega, h0, hq⟩]; rfl
theorem mod_is (m : Nat) (h0 : 0 < m) (h1 : m ≤ 1000) {x : Int} (hx : -9223372036854775808 ≤ x ∧ x ≤ 9223372036854775807) : ∃ q : Nat, q < m ∧ (IntKind.i64.wrap (x.tmod (m : Int) + (m : Int))).tmod (m : Int) = (q : Int) := by
  have a1 : -(m : Int) < x.tmod m := by have := Int.lt_tmod_of_pos x (show (0 : Int) < m by omega); exact this
  have a2 : x.tmod m < m := Int.tmod_lt_of_pos x (by omega)
  rw [wrap_i64 (by omega) (by omega)]
  refine ⟨((x.tmod m + m).tmod m).toNat, ?_, ?_⟩
  · have := Int.tmod_lt_of_pos (x.tmod m + m) (show (0 : Int) < m by omega)
    have := Int.tmod_nonneg (m : Int) (show 0 ≤ x.tmod m + m by omega)
    omega
  · have := Int.tmod_nonneg (m : Int) (show 0 ≤ x.tmod m + m by omega)
    omega
end Go.Pl
end

section
namespace Go.Pl
open Go Go.Sx

/-- the first bytes of the pages 1 to 31 -/
def NB (Q : Pages) (nb : List UInt8) : Prop := nb.length = 32 ∧ ∀ no : Nat, 1 ≤ no → no < 32 → ∃ c, nb[no]? = some c ∧ (Q (no : Nat))[0]? = some c
theorem NB.upd0 {Q : Pages} {nb : List UInt8} (h : NB Q nb) (b : List UInt8) : NB (upd Q 0 b) nb := ⟨h.1, fun no h1 h2 => by
  obtain ⟨c, a1, a2⟩ := h.2 no h1 h2
  exact ⟨c, a1, by unfold upd; rw [if_neg (by omega)]; exact a2⟩⟩
theorem NB.put {Q Q' : Pages} {nb : List UInt8} (h : NB Q nb) {m : Nat} (hm : m < 32) {c : UInt8} (hq : ∀ no : Nat, 1 ≤ no → no < 32 → Q' (no : Nat) = upd Q (m : Nat) (pageOf [c]) (no : Nat)) : NB Q' (nb.set m c) := ⟨by rw [List.length_set]; exact h.1, fun no h1 h2 => by
  rw [hq no h1 h2]
  by_cases e : m = no
  · subst e
    exact ⟨c, List.getElem?_set_self (by rw [h.1]; exact hm), by unfold upd; rw [if_pos rfl]; rfl⟩
  · obtain ⟨d, a1, a2⟩ := h.2 no h1 h2
    exact ⟨d, by rw [List.getElem?_set_ne e]; exact a1, by unfold upd; rw [if_neg (by omega)]; exact a2⟩⟩
/-- the first bytes of what was, thirty-two by thirty-two -/
def WB (ws : List Pages) (wb : List UInt8) : Prop := wb.length = 96 ∧ ∀ (k : Nat) (w : Pages), ws[k]? = some w → k < 3 ∧ ∀ no : Nat, 1 ≤ no → no < 32 → ∃ c, wb[k * 32 + no]? = some c ∧ (w (no : Nat))[0]? = some c
theorem over_in {α : Type} {xs ys : List α} {j i : Nat} (h : j + ys.length ≤ xs.length) (h1 : j ≤ i) (h2 : i < j + ys.length) : (over xs j ys)[i]? = ys[i - j]? := by
  unfold over
  rw [List.append_assoc, List.getElem?_append_right (by rw [List.length_take]; omega), List.length_take, List.getElem?_append_left (by omega), show min j xs.length = j by omega]
theorem over_out {α : Type} {xs ys : List α} {j i : Nat} (h : j + ys.length ≤ xs.length) (h1 : i < j ∨ j + ys.length ≤ i) : (over xs j ys)[i]? = xs[i]? := by
  unfold over
  rcases h1 with h1 | h1
  · rw [List.append_assoc, List.getElem?_append_left (by rw [List.length_take]; omega), List.getElem?_take, if_pos h1]
  · rw [List.getElem?_append_right (by rw [List.length_append, List.length_take]; omega), List.length_append, List.length_take, List.getElem?_drop, show j + ys.length + (i - (min j xs.length + ys.length)) = i by omega]
theorem WB.snoc {ws : List Pages} {wb nb : List UInt8} {Q : Pages} (h : WB ws wb) (hn : NB Q nb) (hl : ws.length < 3) : WB (ws ++ [Q]) (over wb (ws.length * 32) nb) := by
  have hb : ws.length * 32 + nb.length ≤ wb.length := by rw [h.1, hn.1]; omega
  refine ⟨by rw [length_over hb]; exact h.1, fun k w hw => ?_⟩
  rw [List.getElem?_append] at hw
  split at hw
  · rename_i hk
    obtain ⟨h1, h2⟩ := h.2 k w hw
    refine ⟨h1, fun no a1 a2 => ?_⟩
    obtain ⟨c, b1, b2⟩ := h2 no a1 a2
    exact ⟨c, by rw [over_out hb (.inl (by omega))]; exact b1, b2⟩
  · have := (List.getElem?_eq_some_iff.1 hw).1
    simp only [List.length_singleton] at this
    rw [show k - ws.length = 0 by omega] at hw
    cases hw
    refine ⟨by omega, fun no a1 a2 => ?_⟩
    obtain ⟨c, b1, b2⟩ := hn.2 no a1 a2
    exact ⟨c, by rw [over_in hb (by omega) (by rw [hn.1]; omega), show k * 32 + no - ws.length * 32 = no by omega]; exact b1, b2⟩
def pAll : List UInt8 := pageOf [252, 255, 255, 255]
theorem pAll_len : pAll.length = 256 := pageOf_length (by simp)
theorem pAll_has : ∀ no : Int, 2 ≤ no → no < 32 → hasB pAll no = true := by
  have key : ∀ no : Fin 32, 2 ≤ no.val → hasB pAll (no.val : Nat) = true := by decide +kernel
  intro no h1 h2
  have := key ⟨no.toNat, by omega⟩ (by show 2 ≤ no.toNat; omega)
  rwa [show (((⟨no.toNat, by omega⟩ : Fin 32).val : Nat) : Int) = no by show ((no.toNat : Nat) : Int) = no; omega] at this
theorem pAll_nb : NB (upd (fun _ => noughts 256) ((1 : Nat) : Int) pAll) ((List.replicate 32 (0 : UInt8)).set 1 252) := ⟨rfl, fun no h1 h2 => by
  by_cases e : no = 1
  · subst e; exact ⟨252, rfl, rfl⟩
  · exact ⟨0, by rw [List.getElem?_set_ne (by omega), List.getElem?_replicate, if_pos h2], by unfold upd; rw [if_neg (by omega)]; rfl⟩⟩
end Go.Pl
end

section
namespace Go.Pl
open Go Go.Sx

def snapsN (i : Nat) : List Snap := (List.range i).map fun k => newSnap (nmK k) ((k : Int) + 1)
theorem snapsN_succ (i : Nat) : snapsN (i + 1) = snapsN i ++ [newSnap (nmK i) ((i : Int) + 1)] := by unfold snapsN; rw [List.range_succ, List.map_append]; rfl
theorem snapsN_len (i : Nat) : (snapsN i).length = i := by unfold snapsN; simp
theorem snapsN_good : ∀ i : Nat, i ≤ 4 → GoodC (i : Nat) (snapsN i) ∧ Named (snapsN i) := by
  intro i
  induction i with
  | zero => exact fun _ => ⟨⟨Int.le_refl _, by decide, by simp [snapsN], by simp [snapsN], List.Pairwise.nil, List.Pairwise.nil, List.Pairwise.nil⟩, fun k s h => by simp [snapsN] at h⟩
  | succ i ih =>
    intro h
    obtain ⟨h1, h2⟩ := ih (by omega)
    have h3 := h2.add h1 (by rw [snapsN_len]) (by rw [snapsN_len]; omega)
    rw [snapsN_len] at h3
    rw [snapsN_succ]
    exact ⟨h3.2.1, h3.2.2⟩
theorem snapsN_add {i : Nat} (h : i < 4) : addC (i : Nat) (snapsN i) (nmK i) = (((i : Int) + 1, snapsN (i + 1)), 0) := by
  obtain ⟨h1, h2⟩ := snapsN_good i (by omega)
  have h3 := h2.add h1 (by rw [snapsN_len]) (by rw [snapsN_len]; exact h)
  rw [snapsN_len] at h3
  rw [snapsN_succ]; exact h3.1
theorem snapsN_mem {i : Nat} {s : Snap} (h : s ∈ snapsN i) : ∃ nm id, s = newSnap nm id := by
  obtain ⟨k, _, rfl⟩ := List.mem_map.1 h; exact ⟨_, _, rfl⟩
theorem snapsN_35 {i : Nat} : ∀ s ∈ snapsN i, (encSnap s).length = 35 := fun s h => by obtain ⟨nm, id, rfl⟩ := snapsN_mem h; exact len_newSnap nm id
theorem snapsN_keeps {Q : Pages} (hQ : ∀ no, mayPage no → (Q no).length = 256) {i : Nat} (h : i ≤ 4) : Keeps (upd Q 0 (encode (i : Nat) (snapsN i)).1) (i : Nat) (snapsN i) (List.replicate i Q) := by
  refine ⟨st_upd hQ snapsN_35 (snapsN_good i h).1, by rw [snapsN_len, List.length_replicate], fun k s w hs hw _ no h1 h2 _ => ?_⟩
  obtain ⟨nm, id, rfl⟩ := snapsN_mem (List.mem_of_getElem? hs)
  obtain rfl := List.eq_of_mem_replicate (List.mem_of_getElem? hw)
  rw [newSnap_view]; unfold upd; rw [if_neg (by omega)]
theorem snapsN_kept {i : Nat} (D : List Int) : Kept D (snapsN i) := fun s h => by obtain ⟨nm, id, rfl⟩ := snapsN_mem h; exact ⟨rfl, newSnap_only nm id D⟩

/-! ### counted -/
/-- whoever is not Invalid has copies of the pages 1 to r, and of no others -/
def InR (r : Nat) (xs : List Snap) : Prop := ∀ s ∈ xs, s.inv = false → ∀ no, 0 ≤ no → no < 32 → (s.at no ≠ 0 ↔ 1 ≤ no ∧ no ≤ r)
theorem not0_count : ∀ (m : List Int) (off lo hi : Nat), (∀ (j : Nat) (a : Int), m[j]? = some a → (a ≠ 0 ↔ lo ≤ off + j ∧ off + j < hi)) → lo ≤ hi → (not0 m).length = min hi (off + m.length) - max lo off := by
  intro m
  induction m with
  | nil => intro off lo hi _ h; simp [not0]; omega
  | cons y m ih =>
    intro off lo hi h hlh
    have h0 := h 0 y rfl
    have hr := ih (off + 1) lo hi (fun j a hj => by
      have := h (j + 1) a (by simpa using hj)
      rwa [show off + (j + 1) = off + 1 + j by omega] at this) hlh
    rw [List.length_cons]
    by_cases hy : y = 0
    · have e : not0 (y :: m) = not0 m := by simp [not0, hy]
      have hn : ¬ (lo ≤ off + 0 ∧ off + 0 < hi) := fun hh => (h0.2 hh) hy
      rw [e, hr]; omega
    · have e : not0 (y :: m) = y :: not0 m := by simp [not0, hy]
      have hn := h0.1 hy
      rw [e, List.length_cons, hr]; omega
theorem count_one {r : Nat} (hr : r ≤ 31) {s : Snap} (h32 : s.map.length = 32) (hm : MapOk s) (h : s.inv = false → ∀ no, 0 ≤ no → no < 32 → (s.at no ≠ 0 ↔ 1 ≤ no ∧ no ≤ r)) : (not0 s.map).length = if s.inv = true then 0 else r := by
  by_cases hi : s.inv = true
  · rw [if_pos hi, List.length_eq_zero_iff]
    unfold not0; rw [List.filter_eq_nil_iff]
    intro a ha
    rcases hm.2.1 a ha with h | h
    · simp [h]
    · rw [h.2.2] at hi; cases hi
  · have hi' : s.inv = false := by cases e : s.inv with | false => rfl | true => exact absurd e hi
    rw [if_neg hi, not0_count s.map 0 1 (r + 1) (fun j a hj => by
      have hj32 : j < 32 := by have := (List.getElem?_eq_some_iff.1 hj).1; omega
      have := h hi' (j : Nat) (by omega) (by omega)
      rw [Snap.at_some hj] at this
      rw [this]; omega) (by omega), h32]
    omega
theorem count_all {r : Nat} (hr : r ≤ 31) : ∀ {xs : List Snap}, (∀ s ∈ xs, s.map.length = 32 ∧ MapOk s) → InR r xs → (gather xs).length = r * (xs.length - (xs.filter Snap.inv).length) ∧ (xs.filter Snap.inv).length ≤ xs.length := by
  intro xs
  induction xs with
  | nil => intro _ _; simp [gather]
  | cons s xs ih =>
    intro h1 h2
    obtain ⟨i1, i2⟩ := ih (fun s hs => h1 s (by simp [hs])) fun s hs => h2 s (by simp [hs])
    obtain ⟨a1, a2⟩ := h1 s (by simp)
    have := count_one hr a1 a2 (h2 s (by simp))
    rw [gather_cons, List.length_append, this, i1]
    by_cases hi : s.inv = true
    · rw [if_pos hi, List.filter_cons_of_pos hi, List.length_cons, List.length_cons]
      refine ⟨?_, by omega⟩
      rw [show xs.length + 1 - ((xs.filter Snap.inv).length + 1) = xs.length - (xs.filter Snap.inv).length by omega]; omega
    · rw [if_neg hi, List.filter_cons_of_neg hi, List.length_cons]
      refine ⟨?_, by omega⟩
      rw [show xs.length + 1 - (xs.filter Snap.inv).length = (xs.length - (xs.filter Snap.inv).length) + 1 by omega, Nat.mul_add]; omega
theorem gather_64 {n : Int} {xs : List Snap} (h : GoodC n xs) : (gather xs).length ≤ 64 := by
  have hr : ∀ a ∈ gather xs, 32 ≤ a ∧ a < 96 := fun a ha => by
    obtain ⟨s, hs, h0⟩ := List.mem_flatMap.1 ha
    obtain ⟨h1, h2⟩ := mem_not0.1 h0
    rcases h.sides s hs a h1 with h | h
    · exact absurd h h2
    · exact h
  have key : ∀ (k : Nat) (lo : Int) (l : List Int), l.Nodup → (∀ a ∈ l, lo ≤ a ∧ a < lo + k) → l.length ≤ k := by
    intro k
    induction k with
    | zero => intro lo l _ h; cases l with
      | nil => simp
      | cons a l => have := h a (by simp); omega
    | succ k ih =>
      intro lo l hn hl
      have h1 := ih (lo + 1) (l.erase lo) (hn.erase lo) fun a ha => by
        have := hl a (List.mem_of_mem_erase ha)
        have hne : a ≠ lo := fun e => by subst e; exact (List.Nodup.not_mem_erase hn) ha
        omega
      by_cases hm : lo ∈ l
      · rw [List.length_erase_of_mem hm] at h1; omega
      · rw [List.erase_of_not_mem hm] at h1; omega
  exact key 64 32 _ h.apart fun a ha => by have := hr a ha; omega
/-- a round: the page no is changed, and all need it -/
theorem InR.step {Q : Pages} {n : Int} {xs : List Snap} {ws : List Pages} (hK : Keeps Q n xs ws) (hw : ∀ w ∈ ws, w 1 = pAll) {no : Nat} (h1 : 1 ≤ no) (h2 : no < 32) (h : InR (no - 1) xs) {b : List UInt8} : InR no (expandS Q 0 (nosOf (chgOf [((no : Int), b)])) xs) := by
  intro t ht hti x hx0 hx1
  obtain ⟨k, hk⟩ := List.getElem?_of_mem ht
  obtain ⟨s, hs, hg⟩ := expandC_got hK.st _ (nosOf_nodup _) hk
  have hsi := hg.inv hti
  have hin := h s (List.mem_of_getElem? hs) hsi
  by_cases e : x = no
  · subst e
    have h0 : s.at (no : Nat) = 0 := Decidable.byContradiction fun h0 => by have := (hin (no : Nat) (by omega) (by omega)).1 h0; omega
    refine ⟨fun _ => by omega, fun _ => hg.got hti _ ((nos_one (by omega) (by omega) b _).2 rfl) ?_⟩
    unfold needsB
    rw [if_neg (fun hh => hh.elim (fun hh => by rw [hsi] at hh; cases hh) (fun hh => hh h0))]
    split
    · rfl
    · rename_i hn1
      obtain ⟨w, hwk⟩ := nth (l := ws) (i := k) (by rw [hK.len]; exact (List.getElem?_eq_some_iff.1 hs).1)
      rw [hK.shows k s w hs hwk hsi 1 (by omega) (by omega) (.inl rfl), hw w (List.mem_of_getElem? hwk)]
      exact pAll_has _ (by omega) (by omega)
  · rw [hg.keep hti x hx0 (.inl fun hm => e ((nos_one (by omega) (by omega) b _).1 hm)), hin x hx0 hx1]
    omega
end Go.Pl
end

section
namespace Go.Pl
open Go Go.Sx
/-- raw changes, one after the other -/
abbrev RawsV := Value × List Raw
def encRR (x : RawsV) : List Value := [x.1]
theorem mix_ims {tI : Nat} {hs0 hs : List Chunk} {v : Value} {l : List Img} {K E : Chunk} (h : MixAt tI hs0 v l K E) (hK : ∀ b o, Has [K] b o → Has hs b o) (hE : ∀ b o, Has (E :: hs0) b o → Has hs b o) (hf : l.length ≤ 1000) (hl : ∀ x ∈ l, x.2.length ≤ 1000) : ∃ ts, imgs ts = l ∧ ImsAt hs v ts ∧ ∃ a c, v = .slice a ts.length c := by
  obtain ⟨ts, rfl, h1, h2⟩ := h.is
  rw [imgs_length] at hf
  refine ⟨ts, rfl, ⟨(h1.row (hs := [])).mono hK, fun t ht => (h2 t ht).mono hE, by omega, fun t ht => ?_⟩, (h1.row (hs := [])).len⟩
  have := hl t.img (List.mem_map.2 ⟨t, ht, rfl⟩)
  have : t.b.length ≤ 1000 := this
  omega
def D31 : List Int := (List.range 31).map fun k : Nat => ((k + 1 : Nat) : Int)
theorem D31_mem {no : Int} (h1 : 1 ≤ no) (h2 : no < 32) : no ∈ D31 := List.mem_map.2 ⟨(no - 1).toNat, List.mem_range.2 (by omega), by omega⟩
theorem D31_len : D31.length = 31 := by unfold D31; simp
theorem nosOf_data {l : List Img} (h : DataImgs l) : ∀ no ∈ nosOf (chgOf l), 1 ≤ no ∧ no < 32 := fun no hno => by
  obtain ⟨h1, h2, h3⟩ := nosOf_mem.1 hno
  obtain ⟨x, hx, rfl⟩ := (chgOf_lay (fun _ => []) l no).2.1 h3
  exact h.2 x hx
theorem dataL_short {l : List Img} (h : ∀ x ∈ l, x.2.length ≤ 1000) : ∀ x ∈ dataL l, x.2.length ≤ 1000 := fun x hx => by
  have := (dataL_ok l).1 x hx; omega
theorem rawImgs_8 (ts : List Raw) : (rawImgs ts 8).length ≤ 8 := by unfold rawImgs; rw [List.length_map, List.length_take]; omega
end Go.Pl
end

section
namespace Go.Pl
open Go Go.Sx

def sideLay (bef : Pages) (R : Pages) (l : List (Int × Int)) : Pages := l.foldl (fun R p => upd R p.1 (bef p.2)) R
theorem sideLay_append (bef R : Pages) (l m : List (Int × Int)) : sideLay bef R (l ++ m) = sideLay bef (sideLay bef R l) m := List.foldl_append
theorem sideLay_off {bef : Pages} : ∀ {l : List (Int × Int)} {R : Pages} {a : Int}, (∀ p ∈ l, p.1 ≠ a) → sideLay bef R l a = R a := by
  intro l
  induction l with
  | nil => intro R a _; rfl
  | cons p l ih =>
    intro R a h
    show sideLay bef (upd R p.1 (bef p.2)) l a = _
    rw [ih fun q hq => h q (by simp [hq])]
    unfold upd; rw [if_neg (fun e => h p (by simp) e.symm)]
theorem sideLay_on {bef : Pages} : ∀ {l : List (Int × Int)} {R : Pages} {a no : Int}, (a, no) ∈ l → (∀ no', (a, no') ∈ l → no' = no) → sideLay bef R l a = bef no := by
  intro l
  induction l with
  | nil => intro R a no h; cases h
  | cons p l ih =>
    intro R a no h hu
    show sideLay bef (upd R p.1 (bef p.2)) l a = _
    by_cases hl : ∃ no', (a, no') ∈ l
    · obtain ⟨no', hl⟩ := hl
      have := hu no' (by simp [hl]); subst this
      exact ih hl fun m hm => hu m (by simp [hm])
    · rw [sideLay_off fun q hq e => hl ⟨q.2, by rw [← e]; exact hq⟩]
      rcases List.mem_cons.1 h with h | h
      · subst h; unfold upd; rw [if_pos rfl]
      · exact absurd ⟨no, h⟩ hl
theorem takeAll_ne : ∀ {nos : List Int} {xs : List Snap} {k j : Nat}, j ≠ k → (takeAll xs k nos)[j]? = xs[j]? := by
  intro nos
  induction nos with
  | nil => intro xs k j _; rfl
  | cons no nos ih =>
    intro xs k j h
    rw [takeAll]
    split
    · exact modify_ne (Ne.symm h)
    · rw [ih h]; exact modify_ne (Ne.symm h)
theorem stepS_ne {Q : Pages} {but : Int} {nos : List Int} {xs : List Snap} {k j : Nat} (h : j ≠ k) : (stepS Q but nos xs k)[j]? = xs[j]? := by
  unfold stepS
  split
  · rfl
  · split
    · rfl
    · unfold copiesC
      split
      · rfl
      · exact takeAll_ne h
theorem fold_ge {Q : Pages} {but : Int} {nos : List Int} {xs : List Snap} : ∀ (m k : Nat), m ≤ k → ((List.range m).foldl (stepS Q but nos) xs)[k]? = xs[k]? := by
  intro m
  induction m with
  | zero => intro k _; rfl
  | succ m ih => intro k h; rw [fold_succ, stepS_ne (by omega)]; exact ih k (by omega)
theorem copiesC_congr {Q R : Pages} {xs : List Snap} {k : Nat} {nos : List Int} (h : ∀ s, xs[k]? = some s → s.inv = false → Q (viewNo s 1) = R (viewNo s 1)) : copiesC Q xs k nos = copiesC R xs k nos := by
  unfold copiesC
  split
  · rfl
  · rename_i s hs
    congr 1
    refine List.filter_congr fun no _ => ?_
    unfold needsB
    split
    · rfl
    · rename_i hc
      rw [h s hs (by cases e : s.inv with | false => rfl | true => exact (hc (.inl e)).elim)]
theorem expandS_congr {Q R : Pages} {but : Int} {nos : List Int} {xs : List Snap} (h : ∀ s ∈ xs, s.inv = false → Q (viewNo s 1) = R (viewNo s 1)) : expandS Q but nos xs = expandS R but nos xs := by
  have key : ∀ m : Nat, (List.range m).foldl (stepS Q but nos) xs = (List.range m).foldl (stepS R but nos) xs := by
    intro m
    induction m with
    | zero => rfl
    | succ m ih =>
      rw [fold_succ, fold_succ, ← ih]
      have hge := fold_ge (Q := Q) (but := but) (nos := nos) (xs := xs) m m (Nat.le_refl _)
      generalize (List.range m).foldl (stepS Q but nos) xs = ys at hge ⊢
      unfold stepS
      split
      · rfl
      · rename_i s hs
        split
        · rfl
        · refine copiesC_congr fun t ht => ?_
          rw [hge] at ht
          exact h t (List.mem_of_getElem? ht)
  exact key _
theorem expandS_nil (Q : Pages) (but : Int) (xs : List Snap) : expandS Q but [] xs = xs := by
  have key : ∀ m : Nat, (List.range m).foldl (stepS Q but []) xs = xs := by
    intro m
    induction m with
    | zero => rfl
    | succ m ih =>
      rw [fold_succ, ih]
      unfold stepS
      split
      · rfl
      · split
        · rfl
        · unfold copiesC; split
          · rfl
          · rfl
  exact key _
/-- the same pages, the same shown -/
structure Agree (Q R : Pages) (xs : List Snap) : Prop where
  data : ∀ no, 1 ≤ no → no < 32 → Q no = R no
  shows : ∀ s ∈ xs, s.inv = false → ∀ no, 1 ≤ no → no < 32 → Q (viewNo s no) = R (viewNo s no)
/-- the document's pages behind a change -/
def afterR (R : Pages) (c : Chg) (l : List (Int × Int)) : Pages := fun no => if 1 ≤ no ∧ no < 32 then (c no).getD (R no) else sideLay R R l no
theorem agree_after {Q R : Pages} {n but : Int} {was : List Snap} {m : Nat} {c : Chg} (h : CowSt Q n was) (hc : DataChg c) (hA : Agree Q R (was.take m)) :
    Agree (after Q n but was m c) (afterR R c (sides was (expandS Q but (nosOf c) (was.take m)))) (expandS Q but (nosOf c) (was.take m)) := by
  have hg := after_good (but := but) (c := c) (m := m) h
  refine ⟨fun no h1 h2 => ?_, fun t ht hti no h1 h2 => ?_⟩
  · rw [after_data h h1 h2]; unfold afterR; rw [if_pos ⟨h1, h2⟩, hA.data no h1 h2]
  · obtain ⟨k, hk⟩ := List.getElem?_of_mem ht
    obtain ⟨s, hs, hgot⟩ := expand_at (but := but) (Q := Q) (h.good.take m) (fun s hs => h.h32 s (List.mem_of_mem_take hs)) (nosOf_nodup c) hk
    have hsi : s.inv = false := by
      split at hgot
      · rw [← hgot]; exact hti
      · exact hgot.inv hti
    have hsd := t.at_side (hg.1.sides t ht) no
    by_cases h0 : t.at no = 0
    · have e : viewNo t no = no := by unfold viewNo; rw [if_neg (fun h => h h0)]
      rw [e, after_data h h1 h2]; unfold afterR; rw [if_pos ⟨h1, h2⟩, hA.data no h1 h2]
    · have e : viewNo t no = t.at no := by unfold viewNo; rw [if_pos h0]
      have hR : ∀ l, afterR R c l (t.at no) = sideLay R R l (t.at no) := fun l => by unfold afterR; rw [if_neg (by omega)]
      rw [e, hR]
      by_cases hst : s.at no = t.at no
      · rw [after_old h hc hs hk (by omega) h0 hst]
        have hv : viewNo s no = t.at no := by unfold viewNo; rw [if_pos (by rw [hst]; exact h0), hst]
        have := hA.shows s (List.mem_of_getElem? hs) hsi no h1 h2
        rw [hv] at this
        rw [this, sideLay_off]
        rintro ⟨a, no'⟩ hp e'
        dsimp only at e'; subst e'
        obtain ⟨u, hu, hm⟩ := List.mem_flatMap.1 hp
        obtain ⟨a1, a2, a3, a4, a5⟩ := mem_sideOf.1 hm
        obtain ⟨j, hj⟩ := List.getElem?_of_mem hu
        have hpu := u.at_get a4
        rw [← a3] at hpu
        obtain ⟨e1, e2⟩ := gather_apart hg.1.apart hk hj (t.at_get h0) hpu h0
        subst e1
        rw [hk] at hj; cases hj
        have e3 : no' = no := by omega
        subst e3
        have hw := (wasOf_like (xs := []) h.good hs (hg.2.2 k s t hs hk)).2
        rw [hw] at a5
        exact a5 hst
      · rw [after_new h hc hs hk (by omega) h2 h0 hst, hA.data no h1 h2]
        have hw := (wasOf_like (xs := []) h.good hs (hg.2.2 k s t hs hk)).2
        have hmem : (t.at no, no) ∈ sides was (expandS Q but (nosOf c) (was.take m)) := List.mem_flatMap.2 ⟨t, ht, mem_sideOf.2 ⟨by omega, h2, rfl, h0, by rw [hw]; exact hst⟩⟩
        rw [sideLay_on hmem]
        intro no' hm
        obtain ⟨u, hu, hm⟩ := List.mem_flatMap.1 hm
        obtain ⟨a1, a2, a3, a4, _⟩ := mem_sideOf.1 hm
        obtain ⟨j, hj⟩ := List.getElem?_of_mem hu
        have hpu := u.at_get a4
        rw [← a3] at hpu
        have := (gather_apart hg.1.apart hk hj (t.at_get h0) hpu h0).2
        omega
/-- the document's pages: side pages first, then the change -/
theorem afterR_lay {R : Pages} {l : List Img} (hl : DataImgs l) {sd : List (Int × Int)} (hs : ∀ p ∈ sd, 32 ≤ p.1) (no : Int) (h0 : no ≠ 0) (h1 : 0 ≤ no) : lay (sideLay R R sd) l no = afterR R (chgOf l) sd no := by
  unfold afterR
  by_cases h : 1 ≤ no ∧ no < 32
  · rw [if_pos h, ← (chgOf_lay (sideLay R R sd) l no).1, sideLay_off fun p hp => by have := hs p hp; omega]
  · rw [if_neg h, lay_off]
    rintro ⟨x, hx, e⟩
    have := hl.2 x hx
    omega

/-! ### snapshots come and go -/
theorem addC_good {n n2 : Int} {xs xs2 : List Snap} {nm : ByteArray} (hg : GoodC n xs) (h : addC n xs nm = ((n2, xs2), 0)) : GoodC n2 xs2 ∧ xs2 = xs ++ [newSnap nm (n + 1)] ∧ n2 = n + 1 := by
  unfold addC at h
  split at h
  · cases h
  · rename_i c1
    split at h
    · cases h
    · rename_i c2
      split at h
      · cases h
      · rename_i c3
        cases h
        have hnm : nameB nm = true := by cases e : nameB nm with | true => rfl | false => exact (c1 e).elim
        have hn0 := hg.n0
        have h0 : MapOk (newSnap nm (n + 1)) ∧ not0 (newSnap nm (n + 1)).map = [] :=
          ⟨⟨(lose_ok (newSnap nm (n + 1))).1.1, fun a ha => .inl (List.eq_of_mem_replicate ha), (lose_ok (newSnap nm (n + 1))).1.2.2⟩, (lose_ok (newSnap nm (n + 1))).2⟩
        refine ⟨⟨by omega, by omega, by rw [List.length_append]; simp; omega, fun s hs => ?_, ?_, ?_, ?_⟩, rfl, rfl⟩
        · rcases List.mem_append.1 hs with hs | hs
          · obtain ⟨a1, a2, a3, a4⟩ := hg.each s hs; exact ⟨a1, a2, by omega, a4⟩
          · rw [List.mem_singleton] at hs; subst hs
            exact ⟨hnm, by show 0 < n + 1; omega, Int.le_refl _, h0.1⟩
        · rw [List.pairwise_append]
          refine ⟨hg.ids, by simp, fun a ha b hb => ?_⟩
          rw [List.mem_singleton] at hb; subst hb
          have := (hg.each a ha).2.2.1
          show a.id < n + 1; omega
        · rw [List.pairwise_append]
          refine ⟨hg.names, by simp, fun a ha b hb => ?_⟩
          rw [List.mem_singleton] at hb; subst hb
          intro e
          exact c2 ((findAt_nonneg (named nm) xs 0).2 ⟨a, ha, by unfold named; rw [e]; exact decide_eq_true rfl⟩)
        · have e : gather (xs ++ [newSnap nm (n + 1)]) = gather xs := by
            unfold gather; rw [List.flatMap_append, List.flatMap_singleton, h0.2, List.append_nil]
          rw [e]; exact hg.apart
theorem gather_sub {xs ys : List Snap} (hs : ys.Sublist xs) : (gather ys).Sublist (gather xs) := by
  unfold gather
  induction hs with
  | slnil => exact List.Sublist.refl _
  | cons a _ ih => rw [List.flatMap_cons]; exact ih.trans (List.sublist_append_right _ _)
  | cons_cons a _ ih => rw [List.flatMap_cons, List.flatMap_cons]; exact ih.append_left _
theorem GoodC.sub {n : Int} {xs ys : List Snap} (h : GoodC n xs) (hs : ys.Sublist xs) : GoodC n ys :=
  ⟨h.n0, h.n1, Nat.le_trans hs.length_le h.few, fun s hm => h.each s (hs.subset hm), h.ids.sublist hs, h.names.sublist hs, List.Nodup.sublist (gather_sub hs) h.apart⟩
theorem dropC_good {n n2 : Int} {xs xs2 : List Snap} {nm : ByteArray} (hg : GoodC n xs) (h : dropC n xs nm = ((n2, xs2), 0)) : GoodC n2 xs2 ∧ xs2.Sublist xs ∧ n2 = n := by
  unfold dropC at h
  split at h
  · cases h
  · cases h
    have hs : (xs.take (findAt (named nm) 0 xs).toNat ++ xs.drop ((findAt (named nm) 0 xs).toNat + 1)).Sublist xs := by
      conv => rhs; rw [← List.take_append_drop (findAt (named nm) 0 xs).toNat xs]
      exact List.Sublist.append_left (List.drop_sublist_drop_left _ (by omega)) _
    exact ⟨hg.sub hs, hs, rfl⟩
end Go.Pl
end

section
namespace Go.Pl
open Go Go.Sx

def rbCells (vs : List Value) (n : Int) (v : Value) : List Value := vs ++ [.int .i64 n, v]
theorem rb_at {vs : List Value} (h : vs.length = 96) {n : Int} {v : Value} {k : Nat} {x : Value} (hv : vs[k]? = some x) {o : Nat} (ho : o = k) : (rbCells vs n v)[o]? = some x := by
  subst ho; unfold rbCells
  rw [List.getElem?_append_left (List.getElem?_eq_some_iff.1 hv).1]; exact hv
theorem rb_n {vs : List Value} (h : vs.length = 96) {n : Int} {v : Value} : (rbCells vs n v)[96]? = some (.int .i64 n) := by
  unfold rbCells; rw [List.getElem?_append_right (by omega), h]; rfl
theorem rb_v {vs : List Value} (h : vs.length = 96) {n : Int} {v : Value} : (rbCells vs n v)[97]? = some v := by
  unfold rbCells; rw [List.getElem?_append_right (by omega), h]; rfl
theorem rb_cat {vs : List Value} (h : vs.length = 96) {n : Int} {v : Value} : ((rbCells vs n v).drop 96).take 2 = [.int .i64 n, v] := by
  unfold rbCells; rw [List.drop_append_of_le_length (by omega), List.drop_eq_nil_of_le (by omega)]; rfl
theorem rb_p {vs : List Value} (h : vs.length = 96) {n : Int} {v : Value} : ((rbCells vs n v).drop 0).take (96 * 1) = vs := by
  unfold rbCells; rw [List.drop_zero, List.take_left' (by omega)]
theorem rb_set {vs : List Value} (h : vs.length = 96) {n : Int} {w : Value} {k : Nat} (hk : k < 96) (v : Value) {o : Nat} (ho : o = k) : splice (rbCells vs n w) o [v] = rbCells (vs.set k v) n w := by
  rw [splice_at (k := k) (by unfold rbCells; simp; omega) v ho]
  unfold rbCells; rw [List.set_append_left _ _ (by omega)]
theorem rb_snaps {vs : List Value} (h : vs.length = 96) {n : Int} {w : Value} (v : Value) {o : Nat} (ho : o = 97) : splice (rbCells vs n w) o [v] = rbCells vs n v := by
  rw [splice_at (k := 97) (by unfold rbCells; simp; omega) v ho]
  unfold rbCells; rw [List.set_append_right _ _ (by omega), h]; rfl
theorem rb_all {vs : List Value} (h : vs.length = 96) {n m : Int} {w v : Value} {o : Nat} (ho : o = 96) : splice (rbCells vs n w) o [.int .i64 m, v] = rbCells vs m v := by
  subst ho
  unfold splice rbCells
  rw [List.take_append_of_le_length (by omega), List.take_of_length_le (by omega), List.drop_eq_nil_of_le (by simp; omega), List.append_nil]
theorem rb_len {vs : List Value} (h : vs.length = 96) {n : Int} {v : Value} : (rbCells vs n v).length = 98 := by unfold rbCells; simp [h]
theorem rb_zero : rbCells (List.replicate 96 (.slice none 0 0)) 0 (.slice none 0 0) = List.replicate 96 (.slice none 0 0) ++ [.int .i64 0, .slice none 0 0] := rfl
theorem takeR_side {xs : List Snap} (h : ∀ s ∈ xs, s.side) : takeR xs = takeP xs := by
  unfold takeR takeP
  rw [copies_eq fun s hs x hx => by rcases h s hs x hx with h | h; exact .inl h; exact .inr (by omega)]
theorem side_set {xs : List Snap} {k : Nat} {s : Snap} (h : ∀ s ∈ xs, s.side) (hs : s.side) : ∀ t ∈ xs.set k s, t.side := fun t ht => by
  rcases List.mem_or_eq_of_mem_set ht with ht | rfl
  · exact h t ht
  · exact hs
theorem set_same {α : Type} {l : List α} {k : Nat} {x : α} (h : l[k]? = some x) : l = l.set k x := by
  apply List.ext_getElem?
  intro j
  by_cases e : k = j
  · subst e; rw [List.getElem?_set_self (List.getElem?_eq_some_iff.1 h).1, h]
  · rw [List.getElem?_set_ne e]
theorem splice_whole {s t : Snap} (h : (encSnap s).length = (encSnap t).length) : splice (encSnap s) 0 (encSnap t) = encSnap t := by
  unfold splice; rw [List.take_zero, List.nil_append, Nat.zero_add, List.drop_eq_nil_of_le (by omega), List.append_nil]
theorem side_same (s : Snap) (n : Nat) : sideOf s s n = [] := by
  unfold sideOf
  rw [List.filter_eq_nil_iff]
  intro p hp
  obtain ⟨k, _, rfl⟩ := List.mem_map.1 hp
  simp
theorem side_keep {n' : Int} {R : Pages} {xs ys : List Snap} {i : Nat} {s : Snap} (hgy : GoodC n' ys) (hs : ys[i]? = some s) : sideLay R R (sides xs (ys.take i)) (viewNo s 1) = R (viewNo s 1) := by
  refine sideLay_off ?_
  rintro ⟨a, no⟩ hp e
  dsimp only at e; subst e
  obtain ⟨u, hu, hm⟩ := List.mem_flatMap.1 hp
  obtain ⟨a1, a2, a3, a4, _⟩ := mem_sideOf.1 hm
  obtain ⟨j, hj⟩ := List.getElem?_of_mem hu
  rw [List.getElem?_take] at hj
  split at hj
  case isFalse => cases hj
  have hd := u.at_side (hgy.sides u (List.mem_of_getElem? hj)) no
  unfold viewNo at a3
  split at a3
  · rename_i h1
    have hpu := u.at_get a4
    rw [← a3] at hpu
    have := (gather_apart hgy.apart hj hs hpu (s.at_get h1) h1).1
    omega
  · omega
theorem sideOf_one {w s : Snap} (h : MapOk s) : sideOf w s 1 = [] := by
  have h0 : s.at ((0 : Nat) : Int) = 0 := by
    cases e : s.map with
    | nil => unfold Snap.at; rw [e]; rfl
    | cons x l =>
      have := h.1 x (by rw [e]; rfl)
      have hx : s.map[0]? = some x := by rw [e]; rfl
      rw [Snap.at_some hx, this]
  rw [sideOf_succ, if_neg (fun h => h.1 h0)]; rfl
theorem side_eq {Q : Pages} {nos : List Int} {s t : Snap} (h : Got Q nos s t) (hm : MapOk t) {no : Nat} {x x0 : Int} (hx : t.map[no]? = some x) (hx0 : s.map[no]? = some x0) (h1 : x ≠ 0) (h2 : x0 ≠ 0) : x0 = x := by
  have hti : t.inv = false := (hm.2.1 x (List.mem_of_getElem? hx)).elim (fun e => absurd e h1) (fun e => e.2.2)
  have := h.old hti (no := (no : Nat)) (by omega) (by rw [Snap.at_some hx0]; exact h2)
  rw [Snap.at_some hx, Snap.at_some hx0] at this
  exact this.symm
theorem has_sub {G G' : Chunk} {hs : List Chunk} (h : ∀ x ∈ G, x ∈ G') {b : Nat} {o : Obj} (hb : Has (G :: hs) b o) : Has (G' :: hs) b o := by
  have hm := hb.mem
  refine Has.of_mem ?_
  simp only [List.flatten_cons, List.mem_append] at hm ⊢
  rcases hm with hm | hm
  · exact .inl (h _ hm)
  · exact .inr hm
end Go.Pl
end

section
namespace Go.Pl
open Go Go.Sx

theorem asc_eq : ∀ {l m : List Int}, l.Pairwise (fun x y => x < y) → m.Pairwise (fun x y => x < y) → (∀ x, x ∈ l ↔ x ∈ m) → l = m := by
  intro l
  induction l with
  | nil => intro m _ _ h; cases m with
    | nil => rfl
    | cons y m => exact absurd ((h y).2 (by simp)) (by simp)
  | cons x l ih => intro m hl hm h; cases m with
    | nil => exact absurd ((h x).1 (by simp)) (by simp)
    | cons y m =>
      rw [List.pairwise_cons] at hl hm
      have e : x = y := by
        have h1 := (h x).1 (by simp)
        have h2 := (h y).2 (by simp)
        rcases List.mem_cons.1 h1 with h1 | h1
        · exact h1
        · rcases List.mem_cons.1 h2 with h2 | h2
          · exact h2.symm
          · have := hm.1 x h1; have := hl.1 y h2; omega
      subst e
      rw [ih hl.2 hm.2 fun z => ⟨fun hz => ?_, fun hz => ?_⟩]
      · rcases List.mem_cons.1 ((h z).1 (by simp [hz])) with e | hz'
        · have := hl.1 z hz; omega
        · exact hz'
      · rcases List.mem_cons.1 ((h z).2 (by simp [hz])) with e | hz'
        · have := hm.1 z hz; omega
        · exact hz'
theorem nosOf_imgsOf (c : Chg) : (imgsOf c 32).map Prod.fst = nosOf c := by
  have key : ∀ n, (imgsOf c n).map Prod.fst = nosTo c n := by
    intro n
    induction n with
    | zero => rfl
    | succ n ih =>
      rw [imgsOf_succ, List.map_append, ih, nosTo_succ]
      cases c (n : Nat) <;> rfl
  exact key 32
theorem nosOf_asc (c : Chg) : (nosOf c).Pairwise fun x y => x < y := by
  rw [← nosOf_imgsOf, List.pairwise_map]; exact imgsOf_asc c 32
theorem nosOf_chgOf {l : List Img} (hl : DataImgs l) : nosOf (chgOf l) = l.map Prod.fst := by
  refine asc_eq (nosOf_asc _) ?_ fun x => ?_
  · rw [List.pairwise_map]; exact hl.1.2.2
  · rw [nosOf_mem, (chgOf_lay (fun _ => []) l x).2]
    constructor
    · rintro ⟨_, _, y, hy, e⟩; exact List.mem_map.2 ⟨y, hy, e⟩
    · intro h
      obtain ⟨y, hy, e⟩ := List.mem_map.1 h
      have := hl.2 y hy
      exact ⟨by omega, by omega, y, hy, e⟩
theorem imgsOf_congr {c c' : Chg} : ∀ {n : Nat}, (∀ k : Nat, k < n → c (k : Nat) = c' (k : Nat)) → imgsOf c n = imgsOf c' n := by
  intro n
  induction n with
  | zero => intro _; rfl
  | succ n ih => intro h; rw [imgsOf_succ, imgsOf_succ, ih fun k hk => h k (by omega), h n (by omega)]
/-- what the document's back lays -/
def backL (R : Pages) (s : Snap) (n : Nat) : List Img := imgsOf (backTo R s n) n
theorem backL_succ {R : Pages} {s : Snap} {n : Nat} (h0 : n ≠ 0) : backL R s (n + 1) = backL R s n ++ if s.at (n : Nat) ≠ 0 ∧ R (s.at (n : Nat)) ≠ R (n : Nat) then [((n : Int), R (s.at (n : Nat)))] else [] := by
  unfold backL
  rw [imgsOf_succ, imgsOf_congr (c' := backTo R s n)]
  · congr 1
    rw [backTo_at]
    by_cases hc : s.at (n : Nat) ≠ 0 ∧ R (s.at (n : Nat)) ≠ R (n : Nat)
    · rw [if_pos hc, if_pos ⟨by omega, by omega, hc⟩]
    · rw [if_neg hc, if_neg fun h => hc h.2.2]
  · intro k hk
    rw [backTo_at, backTo_at]
    by_cases hc : 0 < (k : Int) ∧ (k : Int) < n ∧ s.at (k : Nat) ≠ 0 ∧ R (s.at (k : Nat)) ≠ R (k : Nat)
    · rw [if_pos hc, if_pos ⟨hc.1, by omega, hc.2.2⟩]
    · rw [if_neg hc, if_neg fun h => hc ⟨h.1, by omega, h.2.2⟩]
theorem backL_one (R : Pages) (s : Snap) : backL R s 1 = [] := by
  unfold backL
  rw [imgsOf_succ, backTo_at, if_neg (by omega)]; rfl
theorem backL_len (R : Pages) (s : Snap) (n : Nat) : (backL R s n).length ≤ n := imgsOf_len _ n
theorem backL_data {R : Pages} (hR : ∀ no, mayPage no → (R no).length = 256) {s : Snap} (hs : s.side) (hne : backL R s 32 ≠ []) : DataImgs (backL R s 32) := by
  have hb := backTo_data hR hs
  refine ⟨⟨hne, fun x hx => ?_, imgsOf_asc _ 32⟩, fun x hx => ?_⟩
  · obtain ⟨k, hk, h1, h2⟩ := imgsOf_mem.1 hx
    exact ⟨by unfold mayPage; omega, hb.1 _ _ h1⟩
  · obtain ⟨k, hk, h1, h2⟩ := imgsOf_mem.1 hx
    refine ⟨Decidable.byContradiction fun h => ?_, by omega⟩
    rw [hb.2 _ (.inl (by omega))] at h1; cases h1
theorem sides_take {n : Int} {xs zs : List Snap} {m : Nat} (h : GoodC n xs) (hl : Likes (xs.take m) zs) : sides (xs.take m) zs = sides xs zs := by
  have key : ∀ l : List Snap, (∀ t ∈ l, t ∈ zs) → sides (xs.take m) l = sides xs l := by
    intro l
    induction l with
    | nil => intro _; rfl
    | cons t l ih =>
      intro hm
      have ht := hm t (by simp)
      obtain ⟨k, hk⟩ := List.getElem?_of_mem ht
      obtain ⟨s, hs⟩ := nth (l := xs.take m) (i := k) (by rw [hl.1]; exact (List.getElem?_eq_some_iff.1 hk).1)
      have hlk := hl.2 k s t hs hk
      have e1 := (wasOf_like (xs := []) h hs hlk).2
      have e2 := (wasOf_like (xs := []) (m := (xs.take m).length) (h.take m) (by rw [List.take_length]; exact hs) hlk).2
      show sideOf (wasOf (xs.take m) t) t 32 ++ sides (xs.take m) l = sideOf (wasOf xs t) t 32 ++ sides xs l
      rw [e1, e2, ih fun u hu => hm u (by simp [hu])]
  exact key zs fun _ h => h
theorem sides_self {n : Int} {xs : List Snap} (h : GoodC n xs) : sides xs xs = [] := by
  unfold sides
  rw [List.flatMap_eq_nil_iff]
  intro s hs
  obtain ⟨k, hk⟩ := List.getElem?_of_mem hs
  rw [(wasOf_like (xs := []) (m := xs.length) h (by rw [List.take_length]; exact hk) (.refl s)).2, side_same]
theorem afterR_imgs {R : Pages} {c : Chg} (hc : DataChg c) {sd : List (Int × Int)} (hs : ∀ p ∈ sd, 32 ≤ p.1) {no : Int} (h0 : 1 ≤ no) : lay (sideLay R R sd) (imgsOf c 32) no = afterR R c sd no := by
  obtain ⟨k, rfl⟩ : ∃ k : Nat, no = k := ⟨no.toNat, by omega⟩
  rw [lay_imgsOf]
  unfold afterR
  by_cases h : k < 32
  · rw [if_pos h, if_pos ⟨h0, by omega⟩, sideLay_off fun p hp => by have := hs p hp; omega]
  · rw [if_neg h, if_neg (by omega)]
theorem Agree.congr {Q R R' : Pages} {xs : List Snap} (h : Agree Q R xs) (hs : ∀ s ∈ xs, s.side) (he : ∀ no, 1 ≤ no → R' no = R no) : Agree Q R' xs :=
  ⟨fun no h1 h2 => by rw [he no h1]; exact h.data no h1 h2, fun s hm hi no h1 h2 => by
    rw [he _ (by have := s.at_side (hs s hm) no; unfold viewNo; split <;> omega)]; exact h.shows s hm hi no h1 h2⟩
theorem Agree.congrQ {Q Q' R : Pages} {xs : List Snap} (h : Agree Q R xs) (hs : ∀ s ∈ xs, s.side) (he : ∀ no, 1 ≤ no → Q' no = Q no) : Agree Q' R xs :=
  ⟨fun no h1 h2 => by rw [he no h1]; exact h.data no h1 h2, fun s hm hi no h1 h2 => by
    rw [he _ (by have := s.at_side (hs s hm) no; unfold viewNo; split <;> omega)]; exact h.shows s hm hi no h1 h2⟩
theorem Agree.sub {Q R : Pages} {xs ys : List Snap} (h : Agree Q R xs) (hs : ∀ s ∈ ys, s ∈ xs) : Agree Q R ys := ⟨h.data, fun s hm => h.shows s (hs s hm)⟩
theorem Agree.more {Q R : Pages} {xs : List Snap} (h : Agree Q R xs) (nm : ByteArray) (id : Int) : Agree Q R (xs ++ [newSnap nm id]) :=
  ⟨h.data, fun s hm hi no h1 h2 => by
    rcases List.mem_append.1 hm with hm | hm
    · exact h.shows s hm hi no h1 h2
    · rw [List.mem_singleton] at hm; subst hm; rw [newSnap_view]; exact h.data no h1 h2⟩
theorem cat_bytes {n : Int} {xs : List Snap} (h35 : ∀ s ∈ xs, (encSnap s).length = 35) : catBytesR n xs = (encode n xs).1 := bytes_eq h35
theorem agree_change {Q R : Pages} {n but : Int} {xs : List Snap} {m : Nat} {c : Chg} (h : CowSt Q n xs) (hc : DataChg c) (hA : Agree Q R xs) :
    Agree (after Q n but xs m c) (lay (sideLay R R (sides (xs.take m) (expandS R but (nosOf c) (xs.take m)))) (imgsOf c 32)) (expandS R but (nosOf c) (xs.take m)) ∧
    CowSt (after Q n but xs m c) n (expandS R but (nosOf c) (xs.take m)) ∧ after Q n but xs m c 0 = catBytesR n (expandS R but (nosOf c) (xs.take m)) := by
  have hAt : Agree Q R (xs.take m) := hA.sub fun s hs => List.mem_of_mem_take hs
  have he : expandS R but (nosOf c) (xs.take m) = expandS Q but (nosOf c) (xs.take m) := expandS_congr fun s hs hi => (hAt.shows s hs hi 1 (by omega) (by omega)).symm
  have hg := after_good (but := but) (c := c) (m := m) h
  have hst := after_st (but := but) (m := m) h hc
  rw [he]
  refine ⟨?_, hst, ?_⟩
  · rw [sides_take h.good hg.2]
    exact (agree_after (but := but) h hc hAt).congr hg.1.sides fun no h0 => afterR_imgs hc (fun p hp => (sides_side h p hp).1) h0
  · rw [after_cat h hc, cat_bytes hst.h35]
theorem agree_expand {Q R : Pages} {n : Int} {xs : List Snap} {l : List Img} (h : CowSt Q n xs) (hl : DataImgs l) (hA : Agree Q R xs) :
    Agree (lay Q (expandC Q n xs l)) (lay (sideLay R R (sides xs (expandS R 0 (l.map Prod.fst) xs))) l) (expandS R 0 (l.map Prod.fst) xs) ∧
    CowSt (lay Q (expandC Q n xs l)) n (expandS R 0 (l.map Prod.fst) xs) ∧ lay Q (expandC Q n xs l) 0 = catBytesR n (expandS R 0 (l.map Prod.fst) xs) := by
  have hc := chgOf_data hl
  obtain ⟨h1, h2, h3⟩ := agree_change (but := 0) (m := xs.length) h hc hA
  rw [List.take_length, nosOf_chgOf hl, ← expandC_after] at h1
  rw [List.take_length, nosOf_chgOf hl, ← expandC_after] at h2 h3
  refine ⟨h1.congr h2.good.sides fun no h0 => ?_, h2, h3⟩
  obtain ⟨k, rfl⟩ : ∃ k : Nat, no = k := ⟨no.toNat, by omega⟩
  rw [lay_imgsOf, ← (chgOf_lay _ l _).1]
  split
  · rfl
  · rw [hc.2 _ (.inr (by omega))]; rfl
theorem backTo_agree {Q R : Pages} {xs : List Snap} {i : Nat} {s : Snap} (hA : Agree Q R xs) (hs : xs[i]? = some s) (hi : s.inv = false) : backTo Q s 32 = backTo R s 32 := by
  funext no
  rw [backTo_at, backTo_at]
  by_cases h1 : 0 < no ∧ no < ((32 : Nat) : Int) ∧ s.at no ≠ 0
  · have e1 := hA.data no (by omega) (by omega)
    have e2 := hA.shows s (List.mem_of_getElem? hs) hi no (by omega) (by omega)
    unfold viewNo at e2
    rw [if_pos h1.2.2] at e2
    rw [e1, e2]
  · rw [if_neg fun h => h1 ⟨h.1, h.2.1, h.2.2.1⟩, if_neg fun h => h1 ⟨h.1, h.2.1, h.2.2.1⟩]
theorem agree_back {Q R : Pages} {n : Int} {xs : List Snap} {i : Nat} {s : Snap} (h : CowSt Q n xs) (hA : Agree Q R xs) (hs : xs[i]? = some s) (hi : s.inv = false) :
    Agree (lay Q (revertC Q n xs i s)) (lay (sideLay R R (sides (xs.take (i + 1)) (expandS R s.id ((backL R s 32).map Prod.fst) (xs.take (i + 1))))) (backL R s 32)) (expandS R s.id ((backL R s 32).map Prod.fst) (xs.take (i + 1))) ∧
    CowSt (lay Q (revertC Q n xs i s)) n (expandS R s.id ((backL R s 32).map Prod.fst) (xs.take (i + 1))) ∧ lay Q (revertC Q n xs i s) 0 = catBytesR n (expandS R s.id ((backL R s 32).map Prod.fst) (xs.take (i + 1))) := by
  have hc := backTo_data h.long (h.good.sides s (List.mem_of_getElem? hs))
  have he := backTo_agree hA hs hi
  have := agree_change (but := s.id) (m := i + 1) h hc hA
  unfold backL
  rw [nosOf_imgsOf, ← he]
  exact this
theorem but_none {n : Int} {xs : List Snap} (h : GoodC n xs) : ∀ s ∈ xs, (s.name = ⟨#[]⟩ ↔ s.id = 0) := fun s hs => by
  obtain ⟨h1, h2, _⟩ := h.each s hs
  constructor
  · intro e; rw [e] at h1; exact absurd h1 (by decide)
  · intro e; omega
theorem but_self {n : Int} {xs : List Snap} (h : GoodC n xs) {i : Nat} {s : Snap} (hs : xs[i]? = some s) : ∀ t ∈ xs, (t.name = s.name ↔ t.id = s.id) := fun t ht => by
  obtain ⟨j, hj⟩ := List.getElem?_of_mem ht
  have hn := List.pairwise_iff_getElem.1 h.names
  have hd := List.pairwise_iff_getElem.1 h.ids
  obtain ⟨hjl, ej⟩ := List.getElem?_eq_some_iff.1 hj
  obtain ⟨hil, ei⟩ := List.getElem?_eq_some_iff.1 hs
  subst ej ei
  rcases Nat.lt_trichotomy i j with hl | hl | hl
  · have := hn i j hil hjl hl; have := hd i j hil hjl hl
    constructor
    · intro e; exact absurd e.symm (by assumption)
    · intro e; omega
  · subst hl; simp
  · have := hn j i hjl hil hl; have := hd j i hjl hil hl
    constructor
    · intro e; exact absurd e (by assumption)
    · intro e; omega
end Go.Pl
end

section
namespace Go.Pl
open Go Go.Sx

/-- an operation on a book, as a law is handed it -/
structure CwOp where
  kind : Int
  v : Value
  l : List Raw
  nm : ByteArray
def encCw (o : CwOp) : List Value := [.int .i64 o.kind, o.v, .string o.nm]
theorem expandC_ne {Q : Pages} {n : Int} {xs : List Snap} (h : CowSt Q n xs) {l : List Img} (hl : DataImgs l) : expandC Q n xs l ≠ [] := by
  obtain ⟨x, hx⟩ := List.exists_mem_of_ne_nil l hl.1.1
  obtain ⟨h1, h2⟩ := hl.2 x hx
  have hs := (chgOf_lay Q l x.1).2.2 ⟨x, hx, rfl⟩
  obtain ⟨b, hb⟩ := Option.isSome_iff_exists.1 hs
  have e : expandM Q n xs (expandS Q 0 (nosOf (chgOf l)) xs) (chgOf l) x.1 = some b := by
    have e0 : laySides Q (chgOf l) (sides xs (expandS Q 0 (nosOf (chgOf l)) xs)) x.1 = chgOf l x.1 := laySides_off fun p hp => by
      have := sides_side (but := 0) (m := xs.length) (c := chgOf l) h p (by rw [List.take_length]; exact hp); omega
    unfold expandM sealCat
    split
    · rw [e0, hb]
    · unfold updO; rw [if_neg (by omega), e0, hb]
  intro h0
  have hm : (x.1, b) ∈ expandC Q n xs l := imgsOf_mem.2 ⟨x.1.toNat, by omega, by rw [show ((x.1.toNat : Nat) : Int) = x.1 by omega]; exact e, by show x.1 = _; omega⟩
  rw [h0] at hm; cases hm
theorem expandC_mayI {Q : Pages} {n : Int} {xs : List Snap} (h : CowSt Q n xs) {l : List Img} (hl : DataImgs l) : MayImgs (expandC Q n xs l) :=
  ⟨expandC_ne h hl, expandC_may h hl, imgsOf_asc _ 96⟩
theorem revertC_may {Q : Pages} {n : Int} {xs : List Snap} (h : CowSt Q n xs) {i : Nat} {s : Snap} (hs : xs[i]? = some s) : ∀ x ∈ revertC Q n xs i s, mayPage x.1 ∧ x.2.length = 256 :=
  imgsOf_may (after_len (but := s.id) (m := i + 1) h (backTo_data h.long (h.good.sides s (List.mem_of_getElem? hs))))
/-- snapshots that may follow others -/
structure StepOk (n : Int) (xs : List Snap) (n2 : Int) (xs2 : List Snap) : Prop where
  good : GoodC n2 xs2
  h35 : ∀ s ∈ xs2, (encSnap s).length = 35
  agree : ∀ Q R : Pages, Agree Q R xs → Agree Q R xs2
theorem addC_ok {n n2 : Int} {xs xs2 : List Snap} {nm : ByteArray} (hg : GoodC n xs) (h35 : ∀ s ∈ xs, (encSnap s).length = 35) (h : addC n xs nm = ((n2, xs2), 0)) : StepOk n xs n2 xs2 := by
  obtain ⟨h1, rfl, rfl⟩ := addC_good hg h
  refine ⟨h1, fun s hs => ?_, fun Q R hA => hA.more _ _⟩
  rcases List.mem_append.1 hs with hs | hs
  · exact h35 s hs
  · rw [List.mem_singleton] at hs; subst hs; exact len_newSnap _ _
theorem dropC_ok {n n2 : Int} {xs xs2 : List Snap} {nm : ByteArray} (hg : GoodC n xs) (h35 : ∀ s ∈ xs, (encSnap s).length = 35) (h : dropC n xs nm = ((n2, xs2), 0)) : StepOk n xs n2 xs2 := by
  obtain ⟨h1, h2, rfl⟩ := dropC_good hg h
  exact ⟨h1, fun s hs => h35 s (h2.subset hs), fun Q R hA => hA.sub fun s hs => h2.subset hs⟩
theorem set_cat {Q R : Pages} {n : Int} {xs : List Snap} (hQ : ∀ no, mayPage no → (Q no).length = 256) (hg : GoodC n xs) (h35 : ∀ s ∈ xs, (encSnap s).length = 35) (hA : Agree Q R xs) :
    CowSt (upd Q ((0 : Nat) : Int) (catBytesR n xs)) n xs ∧ upd Q ((0 : Nat) : Int) (catBytesR n xs) 0 = catBytesR n xs ∧ Agree (upd Q ((0 : Nat) : Int) (catBytesR n xs)) R xs := by
  have he := encode_page h35 hg
  have h0 : upd Q ((0 : Nat) : Int) (catBytesR n xs) 0 = catBytesR n xs := by unfold upd; rw [if_pos (by rfl)]
  rw [← cat_bytes h35] at he
  refine ⟨⟨fun no hn => ?_, by rw [h0]; exact he.1⟩, h0, hA.congrQ hg.sides fun no hno => by unfold upd; rw [if_neg (by omega)]⟩
  unfold upd
  split
  · exact he.2
  · exact hQ no hn
theorem catR_len {n : Int} {xs : List Snap} (hg : GoodC n xs) (h35 : ∀ s ∈ xs, (encSnap s).length = 35) : (catBytesR n xs).length = 256 := by
  rw [cat_bytes h35]; exact (encode_page h35 hg).2
theorem good_nil : GoodC 0 [] := ⟨by decide, by decide, by simp, by simp, List.Pairwise.nil, List.Pairwise.nil, List.nodup_nil⟩
theorem agree_nil {Q R : Pages} (h : ∀ no, 1 ≤ no → no < 32 → Q no = R no) : Agree Q R [] := ⟨h, by simp⟩
end Go.Pl
end
