/- Several texts in one. What a book's snapshots show when changes have been laid into it. No program in sight. A book with one snapshot. No program in sight. Books with some snapshots, each as it was. No program in sight. -/
import Derived.Test.YtnhkgchcdbideaaMC

section
namespace Go.Pl
open Go Go.Sx

theorem find_self {n : Int} {xs : List Snap} (h : GoodC n xs) {k : Nat} {s : Snap} (hs : xs[k]? = some s) : findAt (named s.name) 0 xs = k := by
  refine findAt_at hs (by unfold named; simp) fun y hy => ?_
  obtain ⟨j, hj⟩ := List.getElem?_of_mem hy
  rw [List.getElem?_take] at hj
  split at hj
  · rename_i hjk
    obtain ⟨h1, e1⟩ := List.getElem?_eq_some_iff.1 hj
    obtain ⟨h2, e2⟩ := List.getElem?_eq_some_iff.1 hs
    have := List.pairwise_iff_getElem.1 h.names j k h1 h2 hjk
    rw [e1, e2] at this
    unfold named
    exact decide_eq_false this
  · cases hj
theorem wasOf_like {n : Int} {was xs : List Snap} {m k : Nat} {s t : Snap} (h : GoodC n was) (hs : (was.take m)[k]? = some s) (hl : Like s t) : was[k]? = some s ∧ wasOf was t = s := by
  have hw : was[k]? = some s := by
    rw [List.getElem?_take] at hs
    split at hs
    · exact hs
    · cases hs
  refine ⟨hw, ?_⟩
  unfold wasOf
  rw [hl.name, find_self h hw, Int.toNat_natCast, List.getD_eq_getElem?_getD, hw]
  rfl
/-- changes that are no side pages' -/
def DataChg (c : Chg) : Prop := ChgLen c ∧ ∀ no, no < 1 ∨ 32 ≤ no → c no = none
theorem encode_page {n : Int} {xs : List Snap} (h35 : ∀ s ∈ xs, (encSnap s).length = 35) (h : GoodC n xs) : decodeS (encode n xs).1 = ((n, xs), 0) ∧ (encode n xs).1.length = 256 := by
  have hm := may_iff.2 h
  refine ⟨?_, encode_256 h35 hm⟩
  unfold encode; rw [if_pos hm]
  exact decode_encode h35 hm
section
variable {Q : Pages} {n but : Int} {was : List Snap} {m : Nat} {c : Chg}
/-- what is laid -/
def after (Q : Pages) (n but : Int) (was : List Snap) (m : Nat) (c : Chg) : Pages := lay Q (imgsOf (expandM Q n was (expandS Q but (nosOf c) (was.take m)) c) 96)
theorem after_at {no : Int} (hn : mayPage no) : after Q n but was m c no = (expandM Q n was (expandS Q but (nosOf c) (was.take m)) c no).getD (Q no) := lay_all Q _ hn
theorem after_good (h : CowSt Q n was) : GoodC n (expandS Q but (nosOf c) (was.take m)) ∧ Likes (was.take m) (expandS Q but (nosOf c) (was.take m)) :=
  expandS_good (h.good.take m) (fun s hs => h.h32 s (List.mem_of_mem_take hs)) (nosOf_nodup c)
theorem after_35 (h : CowSt Q n was) : ∀ s ∈ expandS Q but (nosOf c) (was.take m), (encSnap s).length = 35 := fun s hs => len35.2 ((after_good h).2.len32 (fun s hs => h.h32 s (List.mem_of_mem_take hs)) s hs)
theorem after_len (h : CowSt Q n was) (hc : DataChg c) : ChgLen (expandM Q n was (expandS Q but (nosOf c) (was.take m)) c) :=
  expandM_len h.long (after_35 h) (may_iff.2 (after_good h).1) hc.1
theorem sides_side (h : CowSt Q n was) : ∀ p ∈ sides was (expandS Q but (nosOf c) (was.take m)), 32 ≤ p.1 ∧ p.1 < 96 := fun p hp => by
  obtain ⟨t, ht, hp⟩ := List.mem_flatMap.1 hp
  obtain ⟨a, no⟩ := p
  obtain ⟨_, _, rfl, h0, _⟩ := mem_sideOf.1 hp
  have := t.at_side ((after_good h).1.sides t ht) no
  dsimp only; omega
theorem after_cat (h : CowSt Q n was) (hc : DataChg c) : after Q n but was m c 0 = (encode n (expandS Q but (nosOf c) (was.take m))).1 := by
  rw [after_at (by unfold mayPage; omega)]
  unfold expandM sealCat
  split
  · rename_i e
    rw [laySides_off fun p hp => by have := sides_side h p hp; omega, hc.2 0 (by omega), e]; rfl
  · unfold updO; rw [if_pos rfl]; rfl
theorem after_data (h : CowSt Q n was) {no : Int} (h1 : 1 ≤ no) (h2 : no < 32) : after Q n but was m c no = (c no).getD (Q no) := by
  rw [after_at (by unfold mayPage; omega)]
  have e : laySides Q c (sides was (expandS Q but (nosOf c) (was.take m))) no = c no := laySides_off fun p hp => by have := sides_side h p hp; omega
  unfold expandM sealCat
  split
  · rw [e]
  · unfold updO; rw [if_neg (by omega), e]
theorem after_side (h : CowSt Q n was) (hc : DataChg c) {a : Int} (h1 : 32 ≤ a) (h2 : a < 96) : after Q n but was m c a = (laySides Q c (sides was (expandS Q but (nosOf c) (was.take m))) a).getD (Q a) := by
  rw [after_at (by unfold mayPage; omega)]
  unfold expandM sealCat
  split
  · rfl
  · unfold updO; rw [if_neg (by omega)]
theorem after_st (h : CowSt Q n was) (hc : DataChg c) : CowSt (after Q n but was m c) n (expandS Q but (nosOf c) (was.take m)) := by
  refine ⟨fun no hn => ?_, by rw [after_cat h hc]; exact (encode_page (after_35 h) (after_good h).1).1⟩
  rw [after_at hn]
  cases e : expandM Q n was (expandS Q but (nosOf c) (was.take m)) c no with
  | none => exact h.long no hn
  | some b => exact after_len h hc no b e
theorem after_new (h : CowSt Q n was) (hc : DataChg c) {k : Nat} {s t : Snap} (hs : (was.take m)[k]? = some s) (ht : (expandS Q but (nosOf c) (was.take m))[k]? = some t) {no : Int} (h1 : 0 ≤ no) (h2 : no < 32) (h3 : t.at no ≠ 0) (h4 : s.at no ≠ t.at no) :
    after Q n but was m c (t.at no) = Q no := by
  have hg := after_good (but := but) (c := c) (m := m) h
  have hsd := t.at_side (hg.1.sides t (List.mem_of_getElem? ht)) no
  have hw := (wasOf_like (xs := []) h.good hs (hg.2.2 k s t hs ht)).2
  have hmem : (t.at no, no) ∈ sides was (expandS Q but (nosOf c) (was.take m)) := List.mem_flatMap.2 ⟨t, List.mem_of_getElem? ht, mem_sideOf.2 ⟨h1, h2, rfl, h3, by rw [hw]; exact h4⟩⟩
  rw [after_side h hc (by omega) (by omega), laySides_on hmem]
  · rfl
  · intro no' hm
    obtain ⟨u, hu, hm⟩ := List.mem_flatMap.1 hm
    obtain ⟨a1, a2, a3, a4, _⟩ := mem_sideOf.1 hm
    obtain ⟨j, hj⟩ := List.getElem?_of_mem hu
    have hpu := u.at_get a4
    rw [← a3] at hpu
    have := (gather_apart hg.1.apart ht hj (t.at_get h3) hpu h3).2
    omega
theorem after_old (h : CowSt Q n was) (hc : DataChg c) {k : Nat} {s t : Snap} (hs : (was.take m)[k]? = some s) (ht : (expandS Q but (nosOf c) (was.take m))[k]? = some t) {no : Int} (h1 : 0 ≤ no) (h3 : t.at no ≠ 0) (h4 : s.at no = t.at no) :
    after Q n but was m c (t.at no) = Q (t.at no) := by
  have hg := after_good (but := but) (c := c) (m := m) h
  have hsd := t.at_side (hg.1.sides t (List.mem_of_getElem? ht)) no
  rw [after_side h hc (by omega) (by omega), laySides_off, hc.2 _ (by omega)]
  · rfl
  · rintro ⟨a, no'⟩ hp e
    dsimp only at e; subst e
    obtain ⟨u, hu, hm⟩ := List.mem_flatMap.1 hp
    obtain ⟨a1, a2, a3, a4, a5⟩ := mem_sideOf.1 hm
    obtain ⟨j, hj⟩ := List.getElem?_of_mem hu
    have hpu := u.at_get a4
    rw [← a3] at hpu
    obtain ⟨e1, e2⟩ := gather_apart hg.1.apart ht hj (t.at_get h3) hpu h3
    subst e1
    rw [ht] at hj; cases hj
    have e3 : no' = no := by omega
    subst e3
    have hw := (wasOf_like (xs := []) h.good hs (hg.2.2 k s t hs ht)).2
    rw [hw] at a5
    exact a5 h4
/-- what a snapshot shows -/
theorem after_shows (h : CowSt Q n was) (hc : DataChg c) {k : Nat} {s t : Snap} (hs : (was.take m)[k]? = some s) (ht : (expandS Q but (nosOf c) (was.take m))[k]? = some t) (hgt : Got Q (nosOf c) s t) (hti : t.inv = false) {no : Int} (h1 : 1 ≤ no) (h2 : no < 32)
    (hu : c no = none ∨ no = 1 ∨ hasB (Q (viewNo s 1)) no = true) : after Q n but was m c (viewNo t no) = Q (viewNo s no) := by
  by_cases ht0 : t.at no = 0
  · have hs0 : s.at no = 0 := Decidable.byContradiction fun hne => by
      rw [hgt.old hti (by omega) hne] at ht0; exact hne ht0
    have e1 : viewNo t no = no := by unfold viewNo; rw [if_neg (fun h => h ht0)]
    have e2 : viewNo s no = no := by unfold viewNo; rw [if_neg (fun h => h hs0)]
    rw [e1, e2, after_data h h1 h2]
    cases hcn : c no with
    | none => rfl
    | some b =>
      exfalso
      have hn : no ∈ nosOf c := nosOf_mem.2 ⟨by omega, h2, by rw [hcn]; rfl⟩
      refine hgt.got hti no hn ?_ ht0
      unfold needsB
      rw [if_neg (fun h => h.elim (fun h => by rw [hgt.inv hti] at h; cases h) (fun h => h hs0))]
      rcases hu with hu | hu | hu
      · rw [hcn] at hu; cases hu
      · rw [if_pos hu]
      · split
        · rfl
        · exact hu
  · have e1 : viewNo t no = t.at no := by unfold viewNo; rw [if_pos ht0]
    rw [e1]
    by_cases hst : s.at no = t.at no
    · rw [after_old h hc hs ht (by omega) ht0 hst]
      unfold viewNo; rw [if_pos (by rw [hst]; exact ht0), hst]
    · rw [after_new h hc hs ht (by omega) h2 ht0 hst]
      have hs0 : s.at no = 0 := Decidable.byContradiction fun hne => hst (hgt.old hti (by omega) hne).symm
      unfold viewNo; rw [if_neg (fun h => h hs0)]
end
theorem chgOf_data {l : List Img} (h : DataImgs l) : DataChg (chgOf l) := ⟨chgOf_len h.1, fun no hno => by
  cases e : chgOf l no with
  | none => rfl
  | some b =>
    have := (chgOf_lay (fun _ => []) l no).2.1 (by rw [e]; rfl)
    obtain ⟨x, hx, rfl⟩ := this
    have := h.2 x hx
    omega⟩
theorem expandC_after (Q : Pages) (n : Int) (xs : List Snap) (l : List Img) : lay Q (expandC Q n xs l) = after Q n 0 xs xs.length (chgOf l) := by
  unfold expandC after; rw [List.take_length]
theorem expandC_may {Q : Pages} {n : Int} {xs : List Snap} (h : CowSt Q n xs) {l : List Img} (hl : DataImgs l) : ∀ x ∈ expandC Q n xs l, mayPage x.1 ∧ x.2.length = 256 := by
  have := after_len (but := 0) (m := xs.length) h (chgOf_data hl)
  rw [List.take_length] at this
  exact imgsOf_may this
theorem expandC_st {Q : Pages} {n : Int} {xs : List Snap} (h : CowSt Q n xs) {l : List Img} (hl : DataImgs l) : CowSt (lay Q (expandC Q n xs l)) n (expandS Q 0 (nosOf (chgOf l)) xs) := by
  have := after_st (but := 0) (m := xs.length) h (chgOf_data hl)
  rw [List.take_length] at this
  rw [expandC_after]; exact this
theorem id_pos {Q : Pages} {n : Int} {xs : List Snap} (h : CowSt Q n xs) {k : Nat} {s : Snap} (hs : xs[k]? = some s) : s.id ≠ 0 := by have := (h.good.each s (List.mem_of_getElem? hs)).2.1; omega
theorem expandC_got {Q : Pages} {n : Int} {xs : List Snap} (h : CowSt Q n xs) (nos : List Int) (hd : nos.Nodup) {k : Nat} {t : Snap} (ht : (expandS Q 0 nos xs)[k]? = some t) : ∃ s, xs[k]? = some s ∧ Got Q nos s t := by
  obtain ⟨s, hs, hk⟩ := expand_at h.good h.h32 hd ht
  rw [if_neg (id_pos h hs)] at hk
  exact ⟨s, hs, hk⟩
theorem expandC_shows {Q : Pages} {n : Int} {xs : List Snap} (h : CowSt Q n xs) {l : List Img} (hl : DataImgs l) {k : Nat} {s t : Snap} (hs : xs[k]? = some s) (ht : (expandS Q 0 (nosOf (chgOf l)) xs)[k]? = some t) (hti : t.inv = false) {no : Int} (h1 : 1 ≤ no) (h2 : no < 32)
    (hu : ¬ Touches l no ∨ no = 1 ∨ hasB (Q (viewNo s 1)) no = true) : lay Q (expandC Q n xs l) (viewNo t no) = Q (viewNo s no) := by
  obtain ⟨s', hs', hg⟩ := expandC_got h (nosOf (chgOf l)) (nosOf_nodup _) ht
  rw [hs] at hs'; cases hs'
  rw [expandC_after]
  refine after_shows (m := xs.length) (but := 0) h (chgOf_data hl) (by rw [List.take_length]; exact hs) (by rw [List.take_length]; exact ht) hg hti h1 h2 (hu.imp_left fun hu => ?_)
  cases e : chgOf l no with
  | none => rfl
  | some b => exact absurd ((chgOf_lay (fun _ => []) l no).2.1 (by rw [e]; rfl)) hu
theorem expandC_data {Q : Pages} {n : Int} {xs : List Snap} (h : CowSt Q n xs) (l : List Img) {no : Int} (h1 : 1 ≤ no) (h2 : no < 32) : lay Q (expandC Q n xs l) no = lay Q l no := by
  rw [expandC_after, after_data h h1 h2, (chgOf_lay Q l no).1]

theorem own_at {tI tU : Nat} {v : Value} {ts : List Im} {H : Chunk} {l : List Img} (h : OwnIms tI tU v ts H) (hl : imgs ts = l) (hm : ∀ x ∈ l, mayPage x.1 ∧ x.2.length = 256) (hf : l.length ≤ 96) {hs : List Chunk} : ImsAt (H :: hs) v ts := by
  subst hl
  rw [imgs_length] at hf
  refine h.at (by omega) fun t ht => ?_
  have : t.b.length = 256 := (hm t.img (List.mem_map.2 ⟨t, ht, rfl⟩)).2
  omega
theorem expandC_len (Q : Pages) (n : Int) (xs : List Snap) (l : List Img) : (expandC Q n xs l).length ≤ 96 := imgsOf_len _ 96
theorem one_data {no : Int} (h1 : 1 ≤ no) (h2 : no < 32) {b : List UInt8} (hb : b.length = 256) : DataImgs [(no, b)] :=
  ⟨⟨by simp, fun x hx => by rw [List.mem_singleton] at hx; subst hx; exact ⟨by unfold mayPage; dsimp only; omega, hb⟩, List.pairwise_singleton _ _⟩, fun x hx => by rw [List.mem_singleton] at hx; subst hx; exact ⟨h1, h2⟩⟩
/-- a snapshot by its name, that is not Invalid -/
def shownOf (xs : List Snap) (nm : ByteArray) : Option Snap := if findAt (named nm) 0 xs < 0 then none else match xs[(findAt (named nm) 0 xs).toNat]? with
  | none => none
  | some s => if s.inv = true then none else some s
theorem shown_at {n : Int} {xs : List Snap} (h : GoodC n xs) {k : Nat} {s : Snap} (hs : xs[k]? = some s) : shownOf xs s.name = if s.inv = true then none else some s := by
  unfold shownOf
  rw [find_self h hs, if_neg (by omega), Int.toNat_natCast, hs]
theorem shown_some {xs : List Snap} {nm : ByteArray} {s : Snap} (h : shownOf xs nm = some s) : ∃ k : Nat, findAt (named nm) 0 xs = k ∧ xs[k]? = some s ∧ s.inv = false := by
  unfold shownOf at h
  split at h
  · cases h
  · rename_i h0
    split at h
    · cases h
    · rename_i t ht
      split at h
      · cases h
      · rename_i hi
        cases h
        exact ⟨_, by omega, ht, by cases e : s.inv with | false => rfl | true => exact (hi e).elim⟩
/-- changes of data pages, in order, each greater than the last -/
def okAfter (out : List Img) (x : Img) : Bool := decide (1 ≤ x.1) && (decide (x.1 < 32) && (decide (x.2.length = 256) && match out.getLast? with | none => true | some y => decide (y.1 < x.1)))
def dataStep (out : List Img) (x : Img) : List Img := if okAfter out x = true then out ++ [x] else out
def dataL (l : List Img) : List Img := l.foldl dataStep []
theorem dataL_succ {l : List Img} {i : Nat} {x : Img} (h : l[i]? = some x) : dataL (l.take (i + 1)) = dataStep (dataL (l.take i)) x := by
  unfold dataL; rw [take_succ h, List.foldl_append]; rfl
theorem dataL_len (l : List Img) : (dataL l).length ≤ l.length := by
  have key : ∀ (l out : List Img), (l.foldl dataStep out).length ≤ out.length + l.length := by
    intro l
    induction l with
    | nil => intro out; exact Nat.le_refl _
    | cons x l ih =>
      intro out
      have h1 := ih (dataStep out x)
      have h2 : (dataStep out x).length ≤ out.length + 1 := by unfold dataStep; split <;> simp
      rw [List.foldl_cons, List.length_cons]; omega
  have := key l []
  rw [List.length_nil, Nat.zero_add] at this
  exact this
theorem dataL_ok (l : List Img) : (∀ x ∈ dataL l, 1 ≤ x.1 ∧ x.1 < 32 ∧ x.2.length = 256) ∧ (dataL l).Pairwise fun x y => x.1 < y.1 := by
  have key : ∀ (l out : List Img), ((∀ x ∈ out, 1 ≤ x.1 ∧ x.1 < 32 ∧ x.2.length = 256) ∧ out.Pairwise fun x y => x.1 < y.1) → (∀ x ∈ l.foldl dataStep out, 1 ≤ x.1 ∧ x.1 < 32 ∧ x.2.length = 256) ∧ (l.foldl dataStep out).Pairwise fun x y => x.1 < y.1 := by
    intro l
    induction l with
    | nil => intro out h; exact h
    | cons x l ih =>
      intro out h
      refine ih _ ?_
      unfold dataStep
      split
      · rename_i hx
        unfold okAfter at hx
        rw [Bool.and_eq_true, Bool.and_eq_true, Bool.and_eq_true, decide_eq_true_eq, decide_eq_true_eq, decide_eq_true_eq] at hx
        obtain ⟨x1, x2, x3, x4⟩ := hx
        refine ⟨fun y hy => ?_, ?_⟩
        · rcases List.mem_append.1 hy with hy | hy
          · exact h.1 y hy
          · rw [List.mem_singleton] at hy; subst hy; exact ⟨x1, x2, x3⟩
        · rw [List.pairwise_append]
          refine ⟨h.2, by simp, fun a ha c hc => ?_⟩
          rw [List.mem_singleton] at hc; subst hc
          cases hl : out.getLast? with
          | none => rw [List.getLast?_eq_none_iff] at hl; subst hl; cases ha
          | some y =>
            rw [hl] at x4
            have x4 : y.1 < c.1 := of_decide_eq_true x4
            obtain ⟨ys, rfl⟩ := List.getLast?_eq_some_iff.1 hl
            rcases List.mem_append.1 ha with ha | ha
            · have := (List.pairwise_append.1 h.2).2.2 a ha y (by simp); omega
            · rw [List.mem_singleton] at ha; subst ha; exact x4
      · exact h
  exact key l [] ⟨by simp, List.Pairwise.nil⟩
theorem dataL_data {l : List Img} (h : dataL l ≠ []) : DataImgs (dataL l) := by
  obtain ⟨h1, h2⟩ := dataL_ok l
  exact ⟨⟨h, fun x hx => ⟨by have := h1 x hx; unfold mayPage; omega, (h1 x hx).2.2⟩, h2⟩, fun x hx => ⟨(h1 x hx).1, (h1 x hx).2.1⟩⟩
/-! ### as long as there are side pages enough -/
theorem takeP_none {xs : List Snap} {a : Int} (h : takeP xs = (a, false)) : 64 ≤ (gather xs).length := by
  have key : ∀ (k : Nat) (m : Int) (l : List Int), (freeAt k m l).2 = false → ∀ j : Nat, j < k → m + j ∈ l := by
    intro k
    induction k with
    | zero => intro m l _ j hj; omega
    | succ k ih =>
      intro m l h j hj
      rw [freeAt] at h
      split at h
      · rename_i hm
        cases j with
        | zero => simpa using hm
        | succ j => have := ih (m + 1) l h j (by omega); rwa [show m + 1 + (j : Int) = m + ((j + 1 : Nat) : Int) by omega] at this
      · cases h
  have h1 : (freeAt 64 32 (copiesP xs)).2 = false := by unfold takeP at h; rw [h]
  have h2 := key 64 32 (copiesP xs) h1
  have h3 : ∀ (k : Nat) (m : Int) (l : List Int), (∀ j : Nat, j < k → m + j ∈ l) → k ≤ l.length := by
    intro k
    induction k with
    | zero => intro m l _; omega
    | succ k ih =>
      intro m l hl
      have hm : m ∈ l := by simpa using hl 0 (by omega)
      have := ih (m + 1) (l.erase m) fun j hj => by
        have := hl (j + 1) (by omega)
        rw [show m + ((j + 1 : Nat) : Int) = m + 1 + j by omega] at this
        exact (List.mem_erase_of_ne (by omega)).2 this
      rw [List.length_erase_of_mem hm] at this
      have := List.length_pos_of_mem hm
      omega
  have := h3 64 32 _ h2
  unfold copiesP at this
  rwa [List.length_mergeSort] at this
/-- a snapshot's copies are of some pages alone -/
def InD (D : List Int) (s : Snap) : Prop := ∀ (j : Nat) (a : Int), s.map[j]? = some a → a ≠ 0 → (j : Int) ∈ D
theorem not0_le : ∀ (m : List Int) (off : Nat) (D : List Int), (∀ (j : Nat) (a : Int), m[j]? = some a → a ≠ 0 → ((off + j : Nat) : Int) ∈ D) → (not0 m).length ≤ D.length := by
  intro m
  induction m with
  | nil => intro off D _; simp [not0]
  | cons y m ih =>
    intro off D h
    by_cases hy : y = 0
    · have e : not0 (y :: m) = not0 m := by simp [not0, hy]
      rw [e]
      exact ih (off + 1) D fun j a hj ha => by
        have := h (j + 1) a (by simpa using hj) ha
        rwa [show off + (j + 1) = off + 1 + j by omega] at this
    · have e : not0 (y :: m) = y :: not0 m := by simp [not0, hy]
      rw [e]
      have h0 : ((off : Nat) : Int) ∈ D := by simpa using h 0 y rfl hy
      have := ih (off + 1) (D.erase (off : Nat)) fun j a hj ha => by
        have := h (j + 1) a (by simpa using hj) ha
        rw [show off + (j + 1) = off + 1 + j by omega] at this
        exact (List.mem_erase_of_ne (by omega)).2 this
      rw [List.length_erase_of_mem h0] at this
      have := List.length_pos_of_mem h0
      simp only [List.length_cons]; omega
theorem gather_le {xs : List Snap} {D : List Int} (h : ∀ s ∈ xs, InD D s) : (gather xs).length ≤ xs.length * D.length :=
  flatMap_length_le _ D.length xs fun s hs => not0_le s.map 0 D fun j a hj ha => by rw [Nat.zero_add]; exact h s hs j a hj ha
theorem takeAll_kept {D : List Int} : ∀ {nos : List Int} {xs : List Snap} {k : Nat}, xs.length * D.length < 64 → (∀ s ∈ xs, s.inv = false ∧ InD D s) → (∀ no ∈ nos, 0 ≤ no ∧ no ∈ D) → ∀ s ∈ takeAll xs k nos, s.inv = false ∧ InD D s := by
  intro nos
  induction nos with
  | nil => intro xs k _ h _; exact h
  | cons no nos ih =>
    intro xs k hl h hn
    rw [takeAll]
    split
    · rename_i a ha
      have h1 := takeP_none ha
      have h2 := gather_le fun s hs => (h s hs).2
      omega
    · rename_i a ha
      refine ih (by rw [List.length_modify]; exact hl) (fun s hs => ?_) fun no h => hn no (by simp [h])
      rcases mem_modify hs with hs | ⟨x, hx, rfl⟩
      · exact h s hs
      · refine ⟨(h x hx).1, fun j b hj hb => ?_⟩
        have hj : (x.map.set no.toNat a)[j]? = some b := hj
        by_cases e : no.toNat = j
        · obtain ⟨n1, n2⟩ := hn no (by simp)
          rw [show (j : Int) = no by omega]; exact n2
        · rw [List.getElem?_set_ne e] at hj
          exact (h x hx).2 j b hj hb
theorem expand_kept {D : List Int} {Q : Pages} {but : Int} {nos : List Int} {xs : List Snap} (hl : xs.length * D.length < 64) (h : ∀ s ∈ xs, s.inv = false ∧ InD D s) (hn : ∀ no ∈ nos, 0 ≤ no ∧ no ∈ D) :
    ∀ s ∈ expandS Q but nos xs, s.inv = false ∧ InD D s := by
  have key : ∀ m : Nat, (((List.range m).foldl (stepS Q but nos) xs).length = xs.length) ∧ ∀ s ∈ (List.range m).foldl (stepS Q but nos) xs, s.inv = false ∧ InD D s := by
    intro m
    induction m with
    | zero => exact ⟨rfl, h⟩
    | succ m ih =>
      rw [fold_succ]
      obtain ⟨i1, i2⟩ := ih
      generalize (List.range m).foldl (stepS Q but nos) xs = ys at i1 i2 ⊢
      refine ⟨by rw [stepS_length]; exact i1, ?_⟩
      unfold stepS
      split
      · exact i2
      · split
        · exact i2
        · unfold copiesC
          split
          · exact i2
          · exact takeAll_kept (by rw [i1]; exact hl) i2 fun no hno => hn no (List.mem_filter.1 hno).1
  exact (key xs.length).2
end Go.Pl
end

section
namespace Go.Pl
open Go Go.Sx

theorem imgsOf_put {c : Chg} {k : Nat} {b : List UInt8} (hk : c (k : Nat) = none) : ∀ {n : Nat}, k < n → (imgsOf (updO c (k : Nat) b) n).length = (imgsOf c n).length + 1 := by
  have low : ∀ {n : Nat}, n ≤ k → imgsOf (updO c (k : Nat) b) n = imgsOf c n := by
    intro n
    induction n with
    | zero => intro _; rfl
    | succ n ih =>
      intro h
      rw [imgsOf_succ, imgsOf_succ, ih (by omega)]
      unfold updO; rw [if_neg (by omega)]
  intro n
  induction n with
  | zero => intro h; omega
  | succ n ih =>
    intro h
    rw [imgsOf_succ, imgsOf_succ, List.length_append, List.length_append]
    by_cases e : n = k
    · subst e
      rw [low (Nat.le_refl _), hk]
      unfold updO; rw [if_pos rfl]; rfl
    · rw [ih (by omega)]
      have e2 : updO c (k : Nat) b (n : Nat) = c (n : Nat) := by unfold updO; rw [if_neg (by omega)]
      rw [e2]
      omega
theorem imgsOf_none (n : Nat) : imgsOf (fun _ => none) n = [] := by
  induction n with
  | zero => rfl
  | succ n ih => rw [imgsOf_succ, ih]; rfl
theorem takeP_small {xs : List Snap} (h : (gather xs).length < 64) : ∃ a, takeP xs = (a, true) := by
  rcases e : takeP xs with ⟨a, b⟩
  cases b with
  | true => exact ⟨a, rfl⟩
  | false => have := takeP_none e; omega
theorem cat_same {Q : Pages} {n : Int} {xs : List Snap} (h : CowSt Q n xs) : (encode n xs).1 = Q 0 := by
  rcases decode_any (Q 0) with h1 | ⟨m, s, h1, h2, _⟩
  · have := h.cat; rw [h1] at this; cases this
  · have := h.cat; rw [h1] at this; cases this; exact h2
theorem cat_other {Q : Pages} {n : Int} {xs ys : List Snap} (h : CowSt Q n xs) (h35 : ∀ s ∈ ys, (encSnap s).length = 35) (hy : GoodC n ys) (hne : ys ≠ xs) : (encode n ys).1 ≠ Q 0 := fun e => by
  have := (encode_page h35 hy).1
  rw [e, h.cat] at this
  cases this; exact hne rfl
theorem chg_one (no : Int) (b : List UInt8) : chgOf [(no, b)] = updO (fun _ => none) no b := rfl
theorem nos_one {no : Int} (h1 : 0 ≤ no) (h2 : no < 32) (b : List UInt8) : ∀ x, x ∈ nosOf (chgOf [(no, b)]) ↔ x = no := fun x => by
  rw [nosOf_mem, chg_one]
  unfold updO
  constructor
  · rintro ⟨_, _, h⟩
    by_cases e : x = no
    · exact e
    · rw [if_neg e] at h; cases h
  · rintro rfl; exact ⟨h1, h2, by rw [if_pos rfl]; rfl⟩
theorem filter_one {l : List Int} (hd : l.Nodup) {no : Int} (hl : ∀ x, x ∈ l ↔ x = no) (p : Int → Bool) : l.filter p = if p no = true then [no] else [] := by
  have e : l = [no] := by
    cases l with
    | nil => exact absurd ((hl no).2 rfl) (by simp)
    | cons y l =>
      have hy := (hl y).1 (by simp); subst hy
      cases l with
      | nil => rfl
      | cons z l =>
        have hz := (hl z).1 (by simp); subst hz
        exact absurd (List.nodup_cons.1 hd).1 (by simp)
  rw [e]
  by_cases h : p no = true <;> simp [h]
/-- a page is changed: the one snapshot has got it, or needs nothing -/
theorem single {Q : Pages} {n : Int} {s : Snap} (h : CowSt Q n [s]) {no : Int} (h1 : 1 ≤ no) (h2 : no < 32) {b : List UInt8} :
    (needsB Q s no = false ∧ expandS Q 0 (nosOf (chgOf [(no, b)])) [s] = [s] ∧ (expandC Q n [s] [(no, b)]).length = 1) ∨
    (needsB Q s no = true ∧ ∃ a, 32 ≤ a ∧ a < 96 ∧ expandS Q 0 (nosOf (chgOf [(no, b)])) [s] = [give s no a] ∧ (expandC Q n [s] [(no, b)]).length = 3) := by
  have hid : s.id ≠ 0 := id_pos h (k := 0) rfl
  have h32 := h.h32 s (by simp)
  obtain ⟨k, rfl⟩ : ∃ k : Nat, no = k := ⟨no.toNat, by omega⟩
  have hE : expandS Q 0 (nosOf (chgOf [((k : Int), b)])) [s] = takeAll [s] 0 ((nosOf (chgOf [((k : Int), b)])).filter (needsB Q s)) := by
    show stepS Q 0 _ [s] 0 = _
    unfold stepS copiesC
    simp only [List.getElem?_cons_zero, if_neg hid]
  rw [filter_one (nosOf_nodup _) (nos_one (by omega) h2 b)] at hE
  cases hn : needsB Q s (k : Nat) with
  | false =>
    left
    rw [hn, if_neg (by simp), takeAll] at hE
    refine ⟨rfl, hE, ?_⟩
    unfold expandC expandM sealCat
    rw [hE, if_pos (cat_same h)]
    have hs : sides [s] [s] = [] := by
      unfold sides
      rw [List.flatMap_singleton, (wasOf_like (xs := []) (m := 1) h.good (k := 0) (s := s) rfl (.refl s)).2]
      unfold sideOf
      rw [List.filter_eq_nil_iff]
      intro p hp
      obtain ⟨j, _, rfl⟩ := List.mem_map.1 hp
      simp
    rw [hs]
    show (imgsOf (updO (fun _ => none) (k : Nat) b) 96).length = 1
    rw [imgsOf_put rfl (by omega), imgsOf_none]; rfl
  | true =>
    right
    have hat := (needsB_true hn).2.1
    obtain ⟨a, ha⟩ : ∃ a, takeP [s] = (a, true) := takeP_small (by
      have hg : gather [s] = not0 s.map := by unfold gather; rw [List.flatMap_singleton]
      rw [hg]
      have := not0_length s.map; omega)
    obtain ⟨t1, t2, t3⟩ := takeP_side ha
    rw [hn, if_pos rfl, takeAll, ha] at hE
    have hE : expandS Q 0 (nosOf (chgOf [((k : Int), b)])) [s] = [give s (k : Nat) a] := hE
    refine ⟨rfl, a, t1, t2, hE, ?_⟩
    have hg := expandS_good (Q := Q) (but := 0) h.good h.h32 (nosOf_nodup (chgOf [((k : Int), b)]))
    rw [hE] at hg
    have hk : k < s.map.length := by omega
    have hga : (give s (k : Nat) a).at (k : Nat) = a := by rw [at_give hk _ _ (by omega), if_pos rfl]
    have hne : [give s (k : Nat) a] ≠ [s] := fun e => by
      injection e with e
      rw [e] at hga; omega
    unfold expandC expandM sealCat
    rw [hE, if_neg (cat_other h (fun t ht => by rw [List.mem_singleton] at ht; subst ht; rw [len35]; exact List.length_set.trans h32) hg.1 hne)]
    have hs : sides [s] [give s (k : Nat) a] = [(a, (k : Int))] := by
      unfold sides
      rw [List.flatMap_singleton, (wasOf_like (xs := []) (m := 1) h.good (k := 0) (s := s) (t := give s (k : Nat) a) rfl ⟨rfl, rfl, List.length_set⟩).2]
      have key : ∀ m : Nat, sideOf s (give s (k : Nat) a) m = if k < m then [(a, (k : Int))] else [] := by
        intro m
        induction m with
        | zero => rw [if_neg (by omega)]; rfl
        | succ m ih =>
          rw [sideOf_succ, ih]
          by_cases e : m = k
          · subst e
            rw [if_neg (by omega), hga, hat, if_pos ⟨by omega, by omega⟩, if_pos (by omega)]; rfl
          · have : (give s (k : Nat) a).at (m : Nat) = s.at (m : Nat) := by rw [at_give hk _ _ (by omega), if_neg (by omega)]
            have e0 : (if s.at (m : Nat) ≠ 0 ∧ s.at (m : Nat) ≠ s.at (m : Nat) then [(s.at (m : Nat), (m : Int))] else []) = [] := if_neg (fun h => h.2 rfl)
            rw [this, e0, List.append_nil]
            by_cases hm : k < m
            · rw [if_pos hm, if_pos (by omega)]
            · rw [if_neg hm, if_neg (by omega)]
      rw [key 32, if_pos (by omega)]
    rw [hs]
    show (imgsOf (updO (updO (updO (fun _ => none) (k : Nat) b) a (Q (k : Nat))) ((0 : Nat) : Int) _) 96).length = 3
    obtain ⟨a', rfl⟩ : ∃ a' : Nat, a = a' := ⟨a.toNat, by omega⟩
    rw [imgsOf_put (by unfold updO; rw [if_neg (by omega), if_neg (by omega)]) (by omega), imgsOf_put (by unfold updO; rw [if_neg (by omega)]) (by omega), imgsOf_put rfl (by omega), imgsOf_none]; rfl
/-- one snapshot s, that has the page no as it was: what is kept while it is changed again and again -/
structure One (Q : Pages) (s : Snap) (no : Int) (old : List UInt8) : Prop where
  st : CowSt Q 1 [s]
  inv : s.inv = false
  shows : Q (viewNo s no) = old
  used : hasB (Q (viewNo s 1)) no = true
  only : InD [no] s
theorem One.step {Q : Pages} {s : Snap} {no : Int} {old : List UInt8} (h : One Q s no old) (h1 : 2 ≤ no) (h2 : no < 32) {b : List UInt8} (hb : b.length = 256) :
    (expandC Q 1 [s] [(no, b)]).length = (if s.at no = 0 then 3 else 1) ∧ ∃ t, t.name = s.name ∧ t.at no ≠ 0 ∧ One (lay Q (expandC Q 1 [s] [(no, b)])) t no old := by
  have hd := one_data (b := b) (show 1 ≤ no by omega) h2 hb
  have hst := expandC_st h.st hd
  have hsh := fun (t : Snap) (ht : (expandS Q 0 (nosOf (chgOf [(no, b)])) [s])[0]? = some t) (hti : t.inv = false) => (expandC_shows h.st hd (k := 0) rfl ht hti (no := no) (by omega) h2 (.inr (.inr h.used)))
  have hsh1 := fun (t : Snap) (ht : (expandS Q 0 (nosOf (chgOf [(no, b)])) [s])[0]? = some t) (hti : t.inv = false) => (expandC_shows h.st hd (k := 0) rfl ht hti (no := 1) (by omega) (by omega) (.inr (.inl rfl)))
  have hn : needsB Q s no = if s.at no = 0 then true else false := by
    unfold needsB
    by_cases h0 : s.at no = 0
    · rw [if_neg (fun hh => hh.elim (fun hh => by rw [h.inv] at hh; cases hh) (fun hh => hh h0)), if_neg (by omega), if_pos h0]; exact h.used
    · rw [if_pos (.inr h0), if_neg h0]
  rcases single h.st (show 1 ≤ no by omega) h2 (b := b) with ⟨e1, e2, e3⟩ | ⟨e1, a, a1, a2, e2, e3⟩
  · have h0 : s.at no ≠ 0 := fun h0 => by rw [hn, if_pos h0] at e1; cases e1
    rw [e2] at hst hsh hsh1
    exact ⟨by rw [e3, if_neg h0], s, rfl, h0, hst, h.inv, by rw [hsh s rfl h.inv]; exact h.shows, by rw [hsh1 s rfl h.inv]; exact h.used, h.only⟩
  · have h0 : s.at no = 0 := Decidable.byContradiction fun h0 => by rw [hn, if_neg h0] at e1; cases e1
    rw [e2] at hst hsh hsh1
    have hm : no.toNat < s.map.length := by rw [h.st.h32 s (by simp)]; omega
    have hga : (give s no a).at no = a := by
      have := at_give hm a no (by omega)
      rw [show ((no.toNat : Nat) : Int) = no by omega, if_pos rfl] at this; exact this
    exact ⟨by rw [e3, if_pos h0], give s no a, rfl, by rw [hga]; omega, hst, h.inv, by rw [hsh _ rfl h.inv]; exact h.shows, by rw [hsh1 _ rfl h.inv]; exact h.used, fun j b hj hb => by
      have hj : (s.map.set no.toNat a)[j]? = some b := hj
      by_cases e : no.toNat = j
      · rw [List.mem_singleton]; omega
      · rw [List.getElem?_set_ne e] at hj; exact h.only j b hj hb⟩
theorem one_back {Q : Pages} {s : Snap} {no : Int} {old : List UInt8} (h : One Q s no old) (h1 : 2 ≤ no) (h2 : no < 32) (ha : s.at no ≠ 0) (hne : old ≠ Q no) : revertC Q 1 [s] 0 s = [(no, old)] := by
  have hid : s.id = s.id := rfl
  have hk : Q (s.at no) = old := by have := h.shows; unfold viewNo at this; rwa [if_pos ha] at this
  obtain ⟨m, rfl⟩ : ∃ m : Nat, no = m := ⟨no.toNat, by omega⟩
  have hb : ∀ n : Nat, backTo Q s n = if m < n then updO (fun _ => none) (m : Nat) old else fun _ => none := by
    intro n
    induction n with
    | zero => rw [if_neg (by omega)]; rfl
    | succ n ih =>
      rw [backTo_succ, ih]
      by_cases e : n = m
      · subst e
        rw [if_neg (fun hh => by rcases hh with hh | hh | hh; omega; exact ha hh; exact hne (hk.symm.trans hh)), if_neg (by omega), if_pos (by omega), hk]
      · have h0 : s.at (n : Nat) = 0 := Decidable.byContradiction fun h0 => by
          have := h.only n _ (by have := s.at_get h0; rwa [Int.toNat_natCast] at this) h0
          rw [List.mem_singleton] at this; omega
        rw [if_pos (.inr (.inl h0))]
        by_cases hm : m < n
        · rw [if_pos hm, if_pos (by omega)]
        · rw [if_neg hm, if_neg (by omega)]
  have hE : ∀ nos, expandS Q s.id nos [s] = [s] := fun nos => by
    show stepS Q s.id nos [s] 0 = _
    unfold stepS
    simp only [List.getElem?_cons_zero, if_pos]
  have hs : sides [s] [s] = [] := by
    unfold sides
    rw [List.flatMap_singleton, (wasOf_like (xs := []) (m := 1) h.st.good (k := 0) (s := s) rfl (.refl s)).2]
    unfold sideOf
    rw [List.filter_eq_nil_iff]
    intro p hp
    obtain ⟨j, _, rfl⟩ := List.mem_map.1 hp
    simp
  unfold revertC
  rw [show [s].take (0 + 1) = [s] from rfl, hE]
  unfold expandM sealCat
  rw [if_pos (cat_same h.st), hs, hb 32, if_pos (by omega)]
  show imgsOf (updO (fun _ => none) (m : Nat) old) 96 = _
  have hl := imgsOf_put (c := fun _ => none) (k := m) (b := old) rfl (n := 96) (by omega)
  rw [imgsOf_none] at hl
  have hmem : ((m : Int), old) ∈ imgsOf (updO (fun _ => none) (m : Nat) old) 96 := imgsOf_mem.2 ⟨m, by omega, by unfold updO; rw [if_pos rfl], rfl⟩
  cases hi : imgsOf (updO (fun _ => none) (m : Nat) old) 96 with
  | nil => rw [hi] at hmem; cases hmem
  | cons y l =>
    rw [hi] at hl hmem
    simp only [List.length_cons, List.length_nil] at hl
    cases l with
    | nil => rw [List.mem_singleton] at hmem; rw [hmem]
    | cons z l => simp at hl
theorem u8_is (z : Int) : ∃ x : UInt8, IntKind.u8.wrap z = (x.toNat : Int) := ⟨b8 z, b8_wrap z⟩
theorem viewPg_ok {Q : Pages} {s : Snap} (hs : s.side) {no : Int} (h1 : 1 ≤ no) (h2 : no < 32) : viewPg s (pgOf Q) no = (0, Q (viewNo s no)) := by
  unfold viewPg pgOf
  rw [if_neg (by omega), if_pos (viewNo_may hs (by unfold mayPage; omega))]
/-- one bit alone -/
def bitAt (no : Nat) : List UInt8 := (List.replicate 256 0).set (no / 8) (UInt8.ofNat (2 ^ (no % 8)))
theorem bit_byte : ∀ m : Fin 8, IntKind.u8.wrap (1 * 2 ^ min ((m.val : Nat) : Int).toNat IntKind.u8.bits) = ((UInt8.ofNat (2 ^ m.val)).toNat : Int) := by decide +kernel
theorem bit_has : ∀ no : Fin 32, 2 ≤ no.val → hasB (bitAt no.val) (no.val : Nat) = true := by decide +kernel
theorem bitAt_len (no : Nat) : (bitAt no).length = 256 := by unfold bitAt; rw [List.length_set, List.length_replicate]
theorem nought_has (no : Int) : hasB (List.replicate 256 0) no = false := by
  unfold hasB
  have : (List.replicate 256 (0 : UInt8)).getD (no.toNat / 8) 0 = 0 := by
    rw [List.getD_eq_getElem?_getD, List.getElem?_replicate]; split <;> rfl
  rw [this]
  have e : decide ((0 : UInt8).toNat / 2 ^ (no.toNat % 8) % 2 = 1) = false := decide_eq_false (by simp)
  rw [e, Bool.and_false]
theorem newSnap_only (nm : ByteArray) (id : Int) (D : List Int) : InD D (newSnap nm id) := fun j a hj ha => absurd (List.eq_of_mem_replicate (List.mem_of_getElem? hj)) ha
/-- the name of the one snapshot -/
def nmS : ByteArray := ⟨#[115]⟩
theorem addS : addC 0 [] nmS = ((1, [newSnap nmS 1]), 0) := by kernel_rfl
theorem mayS : mayB 1 [newSnap nmS 1] = true := by kernel_rfl
theorem encS_len : (encode 1 [newSnap nmS 1]).1.length = 256 := encode_256 (fun s hs => by rw [List.mem_singleton] at hs; subst hs; rfl) mayS
theorem st_one {Q : Pages} (hQ : ∀ no, mayPage no → (Q no).length = 256) : CowSt (upd Q 0 (encode 1 [newSnap nmS 1]).1) 1 [newSnap nmS 1] := by
  refine ⟨fun no hn => ?_, ?_⟩
  · unfold upd; split
    · exact encS_len
    · exact hQ no hn
  · unfold upd; rw [if_pos rfl]
    exact (encode_page (fun s hs => by rw [List.mem_singleton] at hs; subst hs; rfl) (may_iff.1 mayS)).1
theorem newSnap_at (nm : ByteArray) (id no : Int) : (newSnap nm id).at no = 0 := by
  unfold Snap.at newSnap
  rw [List.getD_eq_getElem?_getD, List.getElem?_replicate]
  split <;> rfl
theorem newSnap_view (nm : ByteArray) (id no : Int) : viewNo (newSnap nm id) no = no := by unfold viewNo; rw [newSnap_at, if_neg (by simp)]
end Go.Pl
end

section
namespace Go.Pl
open Go Go.Sx

/-- each snapshot shows what was, of the pages that were in use -/
structure Keeps (Q : Pages) (n : Int) (xs : List Snap) (ws : List Pages) : Prop where
  st : CowSt Q n xs
  len : ws.length = xs.length
  shows : ∀ (k : Nat) (s : Snap) (w : Pages), xs[k]? = some s → ws[k]? = some w → s.inv = false → ∀ no, 1 ≤ no → no < 32 → (no = 1 ∨ hasB (w 1) no = true) → Q (viewNo s no) = w no
theorem Keeps.step {Q : Pages} {n : Int} {xs : List Snap} {ws : List Pages} (h : Keeps Q n xs ws) {l : List Img} (hl : DataImgs l) : Keeps (lay Q (expandC Q n xs l)) n (expandS Q 0 (nosOf (chgOf l)) xs) ws := by
  have hlk := (expandS_good (Q := Q) (but := 0) h.st.good h.st.h32 (nosOf_nodup (chgOf l))).2
  refine ⟨expandC_st h.st hl, h.len.trans hlk.1, fun k t w ht hw hti no h1 h2 hu => ?_⟩
  obtain ⟨s, hs, hg⟩ := expandC_got h.st _ (nosOf_nodup _) ht
  have hsi := hg.inv hti
  have hs1 := h.shows k s w hs hw hsi 1 (by omega) (by omega) (.inl rfl)
  rw [expandC_shows h.st hl hs ht hti h1 h2 (.inr (hu.imp_right fun hb => by rw [hs1]; exact hb))]
  exact h.shows k s w hs hw hsi no h1 h2 hu
def nmK (k : Nat) : ByteArray := txt [b8 (97 + (k : Int))]
theorem nmK_ok : ∀ k : Fin 8, nameB (nmK k.val) = true := by decide +kernel
theorem nmK_apart : ∀ i j : Fin 8, nmK i.val = nmK j.val → i = j := by decide +kernel
def Named (xs : List Snap) : Prop := ∀ (k : Nat) (s : Snap), xs[k]? = some s → s.name = nmK k
theorem Named.likes {xs ys : List Snap} (h : Named xs) (hl : Likes xs ys) : Named ys := fun k t ht => by
  obtain ⟨s, hs⟩ := nth (l := xs) (i := k) (by rw [hl.1]; exact (List.getElem?_eq_some_iff.1 ht).1)
  rw [(hl.2 k s t hs ht).name]; exact h k s hs
theorem Named.take {xs : List Snap} (h : Named xs) (m : Nat) : Named (xs.take m) := fun k s hs => by
  rw [List.getElem?_take] at hs
  split at hs
  · exact h k s hs
  · cases hs
theorem Named.find {n : Int} {xs : List Snap} (h : Named xs) (hg : GoodC n xs) {k : Nat} (hk : k < xs.length) : findAt (named (nmK k)) 0 xs = k := by
  obtain ⟨s, hs⟩ := nth hk
  have := find_self hg hs
  rwa [h k s hs] at this
theorem Named.none {n : Int} {xs : List Snap} (h : Named xs) (hg : GoodC n xs) {k : Nat} (hk : xs.length ≤ k) (h8 : k < 8) : findAt (named (nmK k)) 0 xs < 0 := by
  refine Int.not_le.1 fun h0 => ?_
  obtain ⟨x, hx, hp⟩ := (findAt_nonneg ..).1 h0
  obtain ⟨j, hj⟩ := List.getElem?_of_mem hx
  have hjl := (List.getElem?_eq_some_iff.1 hj).1
  have hn := h j x hj
  unfold named at hp
  have := of_decide_eq_true hp
  rw [hn] at this
  have hf := hg.few
  have := nmK_apart ⟨j, by omega⟩ ⟨k, h8⟩ this
  injection this with e; omega
theorem shown_named {n : Int} {xs : List Snap} (h : Named xs) (hg : GoodC n xs) {k : Nat} {s : Snap} (hs : xs[k]? = some s) : shownOf xs (nmK k) = if s.inv = true then none else some s := by
  have := shown_at hg hs
  rwa [h k s hs] at this
theorem shown_gone {n : Int} {xs : List Snap} (h : Named xs) (hg : GoodC n xs) {k : Nat} (hk : xs.length ≤ k) (h8 : k < 8) : shownOf xs (nmK k) = Option.none := by
  unfold shownOf; rw [if_pos (h.none hg hk h8)]
/-- one snapshot more -/
theorem Named.add {n : Int} {xs : List Snap} (h : Named xs) (hg : GoodC n xs) (hn : n = xs.length) (hl : xs.length < 4) :
    addC n xs (nmK xs.length) = ((n + 1, xs ++ [newSnap (nmK xs.length) (n + 1)]), 0) ∧ GoodC (n + 1) (xs ++ [newSnap (nmK xs.length) (n + 1)]) ∧ Named (xs ++ [newSnap (nmK xs.length) (n + 1)]) := by
  have hnm := nmK_ok ⟨xs.length, by omega⟩
  have hf := h.none hg (Nat.le_refl _) (by omega)
  have hn0 := hg.n0
  refine ⟨?_, ?_, ?_⟩
  · unfold addC
    rw [if_neg (by rw [hnm]; simp), if_neg (by omega), if_neg (by omega)]
  · have h0 : MapOk (newSnap (nmK xs.length) (n + 1)) ∧ not0 (newSnap (nmK xs.length) (n + 1)).map = [] :=
      ⟨⟨(lose_ok (newSnap (nmK xs.length) (n + 1))).1.1, fun a ha => .inl (List.eq_of_mem_replicate ha), (lose_ok (newSnap (nmK xs.length) (n + 1))).1.2.2⟩, (lose_ok (newSnap (nmK xs.length) (n + 1))).2⟩
    refine ⟨by omega, by omega, by rw [List.length_append]; simp; omega, fun s hs => ?_, ?_, ?_, ?_⟩
    · rcases List.mem_append.1 hs with hs | hs
      · obtain ⟨a1, a2, a3, a4⟩ := hg.each s hs; exact ⟨a1, a2, by omega, a4⟩
      · rw [List.mem_singleton] at hs; subst hs
        exact ⟨hnm, by show 0 < n + 1; omega, Int.le_refl _, h0.1⟩
    · rw [List.pairwise_append]
      refine ⟨hg.ids, by simp, fun a ha b hb => ?_⟩
      rw [List.mem_singleton] at hb; subst hb
      have := (hg.each a ha).2.2.1
      show a.id < n + 1; omega
    · rw [List.pairwise_append]
      refine ⟨hg.names, by simp, fun a ha b hb => ?_⟩
      rw [List.mem_singleton] at hb; subst hb
      intro e
      refine absurd ((findAt_nonneg (named (nmK xs.length)) xs 0).2 ⟨a, ha, by unfold named; rw [e]; exact decide_eq_true rfl⟩) (by omega)
    · have e : gather (xs ++ [newSnap (nmK xs.length) (n + 1)]) = gather xs := by
        unfold gather; rw [List.flatMap_append, List.flatMap_singleton, h0.2, List.append_nil]
      rw [e]; exact hg.apart
  · intro k s hs
    rw [List.getElem?_append] at hs
    split at hs
    · exact h k s hs
    · rename_i hk
      have := (List.getElem?_eq_some_iff.1 hs).1
      simp only [List.length_singleton] at this
      rw [show k - xs.length = 0 by omega] at hs
      cases hs
      rw [show k = xs.length by omega]; rfl
theorem add_35 {xs : List Snap} (h : ∀ s ∈ xs, (encSnap s).length = 35) (nm : ByteArray) (id : Int) : ∀ s ∈ xs ++ [newSnap nm id], (encSnap s).length = 35 := fun s hs => by
  rcases List.mem_append.1 hs with hs | hs
  · exact h s hs
  · rw [List.mem_singleton] at hs; subst hs; exact len_newSnap nm id
theorem st_upd {Q : Pages} (hQ : ∀ no, mayPage no → (Q no).length = 256) {n : Int} {xs : List Snap} (h35 : ∀ s ∈ xs, (encSnap s).length = 35) (hg : GoodC n xs) : CowSt (upd Q 0 (encode n xs).1) n xs := by
  have he := encode_page h35 hg
  refine ⟨fun no hn => ?_, by unfold upd; rw [if_pos rfl]; exact he.1⟩
  unfold upd; split
  · exact he.2
  · exact hQ no hn
theorem viewNo_1 {s : Snap} (hs : s.side) {no : Int} (h1 : 1 ≤ no) : viewNo s no ≠ 0 := by
  unfold viewNo
  have := s.at_side hs no
  split <;> omega
theorem Keeps.snap {Q : Pages} {n : Int} {xs : List Snap} {ws : List Pages} (h : Keeps Q n xs ws) {nm : ByteArray} (hg : GoodC (n + 1) (xs ++ [newSnap nm (n + 1)])) :
    Keeps (upd Q 0 (encode (n + 1) (xs ++ [newSnap nm (n + 1)])).1) (n + 1) (xs ++ [newSnap nm (n + 1)]) (ws ++ [Q]) := by
  refine ⟨st_upd h.st.long (add_35 h.st.h35 nm (n + 1)) hg, by rw [List.length_append, List.length_append, h.len]; rfl, fun k s w hs hw hi no h1 h2 hu => ?_⟩
  have hsd := hg.sides s (List.mem_of_getElem? hs)
  unfold upd
  rw [if_neg (viewNo_1 hsd h1)]
  rw [List.getElem?_append] at hs hw
  rw [h.len] at hw
  split at hs
  · rename_i hk
    rw [if_pos hk] at hw
    exact h.shows k s w hs hw hi no h1 h2 hu
  · rename_i hk
    rw [if_neg hk] at hw
    have := (List.getElem?_eq_some_iff.1 hs).1
    simp only [List.length_singleton] at this
    rw [show k - xs.length = 0 by omega] at hs hw
    cases hs; cases hw
    rw [newSnap_view]
theorem Keeps.none {Q : Pages} (hQ : ∀ no, mayPage no → (Q no).length = 256) (h0 : Q 0 = noughts 256) : Keeps Q 0 [] [] := ⟨⟨hQ, by rw [h0]; exact dec0⟩, rfl, fun k s w hs => by cases hs⟩
/-- none is Invalid; copies are of some pages alone -/
def Kept (D : List Int) (xs : List Snap) : Prop := ∀ s ∈ xs, s.inv = false ∧ InD D s
theorem Kept.snap {D : List Int} {xs : List Snap} (h : Kept D xs) (nm : ByteArray) (id : Int) : Kept D (xs ++ [newSnap nm id]) := fun s hs => by
  rcases List.mem_append.1 hs with hs | hs
  · exact h s hs
  · rw [List.mem_singleton] at hs; subst hs; exact ⟨rfl, newSnap_only nm id D⟩
theorem Kept.more {D D' : List Int} {xs : List Snap} (h : Kept D xs) (hd : ∀ x ∈ D, x ∈ D') : Kept D' xs := fun s hs => ⟨(h s hs).1, fun j a hj ha => hd _ ((h s hs).2 j a hj ha)⟩
theorem Kept.step {D : List Int} {Q : Pages} {but : Int} {nos : List Int} {xs : List Snap} (h : Kept D xs) (hl : xs.length * D.length < 64) (hn : ∀ no ∈ nos, 0 ≤ no ∧ no ∈ D) : Kept D (expandS Q but nos xs) := expand_kept hl h hn
end Go.Pl
end
